/- Put and Same of steps whose truths may be nil. -/
import Derived.Test.YtkconbpjimjbnaaSh24
section
namespace Go.Eng
open Go
set_option maxRecDepth 100000
set_option linter.unusedSimpArgs false

theorem rk19z_eq (xs : Row) (sz : Nat) (kk : LK) (ks : Row) (G : List Ent) (i : Int) : (rk19z xs sz kk ks G i).ev =
  (rAsk (decide (i < (((List.length ks) : Nat) : Int)))
   (rAsk ((decide (sz = 1)) && ((decide ((0 : Int) ≤ i)) && (decide (i < (((List.length ks) : Nat) : Int)))))
    (rGet ks[(Int.toNat i)]? fun x1 =>
     (rGet (List.head? (List.drop 0 x1)) fun x2 =>
      (rGet (D.bool? x2) fun x3 =>
       (rAsk x3
        (rGet (fnS (fun (xs : Row) => ((AV.own true 1 xs), G)) (U 35 [(AV.dat (D.list LK.any 1 (List.take (List.length xs) (List.drop 0 xs)))), (AV.dat (D.int IntKind.i64 (1 : Int))), (AV.dat (D.int IntKind.u64 (1 : Int)))] G)) fun x4 =>
         (some (Ex.norm, (St.mk (mkT 0 79 [(4, (AV.sh false 0 1 0 (List.length x4))), (67, (AV.dat (D.list kk sz ks))), (68, (AV.dat (D.int IntKind.i64 (((List.length ks) : Nat) : Int)))), (69, (AV.dat (D.int IntKind.i64 (IntKind.wrap IntKind.i64 (i + (1 : Int))))))]) (Mem.mk [(Option.some (Ent.row Mode.excl 1 x4))] G 0))))
        )
        (rGet (fnS (fun (xs : Row) => ((AV.own true 1 xs), G)) (U 35 [(AV.dat (D.list LK.any 1 (List.take (List.length xs) (List.drop 0 xs)))), (AV.dat (D.int IntKind.i64 (1 : Int))), (AV.dat (D.int IntKind.u64 (0 : Int)))] G)) fun x5 =>
         (some (Ex.norm, (St.mk (mkT 0 79 [(4, (AV.sh false 0 1 0 (List.length x5))), (67, (AV.dat (D.list kk sz ks))), (68, (AV.dat (D.int IntKind.i64 (((List.length ks) : Nat) : Int)))), (69, (AV.dat (D.int IntKind.i64 (IntKind.wrap IntKind.i64 (i + (1 : Int))))))]) (Mem.mk [(Option.some (Ent.row Mode.excl 1 x5))] G 0))))
        )
       )
      )
     )
    )
    none
   )
   (some ((Ex.exit 2), (St.mk (mkT 0 79 [(4, (AV.sh false 0 1 0 (List.length xs)))]) (Mem.mk [(Option.some (Ent.row Mode.excl 1 xs))] G 0))))
  )
  := by kernel_rfl

theorem rk22z_eq (k nd at' n : Int) (s : ByteArray) (p : Int) (kk : LK) (sz : Nat) (ks : Row) (k' nd' at'' n' : Int) (s' : ByteArray) (p' : Int) (kk' : LK) (sz' : Nat) (ks' : Row) (G : List Ent) (i : Int) : (rk22z k nd at' n s p kk sz ks k' nd' at'' n' s' p' kk' sz' ks' G i).ev =
  (rAsk (decide (i < (((List.length ks) : Nat) : Int)))
   (rAsk ((decide (sz = 1)) && ((decide ((0 : Int) ≤ i)) && (decide (i < (((List.length ks) : Nat) : Int)))))
    (rGet ks[(Int.toNat i)]? fun x1 =>
     (rGet (List.head? (List.drop 0 x1)) fun x2 =>
      (rAsk ((decide (sz' = 1)) && ((decide ((0 : Int) ≤ i)) && (decide (i < (((List.length ks') : Nat) : Int)))))
       (rGet ks'[(Int.toNat i)]? fun x3 =>
        (rGet (List.head? (List.drop 0 x3)) fun x4 =>
         (rGet (D.bool? x2) fun x5 =>
          (rGet (D.bool? x4) fun x6 =>
           (rAsk (!(x5 == x6))
            (some (Ex.ret, (St.mk (mkT 0 73 [(4, (AV.dat (D.bool false)))]) (Mem.mk [] G 0))))
            (some (Ex.norm, (St.mk (mkT 0 73 [(2, (AV.ptr (Ref.loc 0) 0)), (3, (AV.ptr (Ref.loc 1) 0)), (5, (AV.dat (D.int IntKind.i64 (IntKind.wrap IntKind.i64 (i + (1 : Int))))))]) (Mem.mk [(Option.some (Ent.obj [(AV.dat (D.int IntKind.i64 k)), (AV.dat (D.int IntKind.i64 nd)), (AV.dat (D.int IntKind.i64 at')), (AV.dat (D.int IntKind.i64 n)), (AV.dat (D.str s)), (AV.dat (D.int IntKind.i64 p)), (AV.dat (D.list kk sz ks))])), (Option.some (Ent.obj [(AV.dat (D.int IntKind.i64 k')), (AV.dat (D.int IntKind.i64 nd')), (AV.dat (D.int IntKind.i64 at'')), (AV.dat (D.int IntKind.i64 n')), (AV.dat (D.str s')), (AV.dat (D.int IntKind.i64 p')), (AV.dat (D.list kk' sz' ks'))]))] G 0))))
           )
          )
         )
        )
       )
       none
      )
     )
    )
    none
   )
   (some ((Ex.exit 0), (St.mk (mkT 0 73 []) (Mem.mk [] G 0))))
  )
  := by kernel_rfl

theorem f19z_eq (k nd at' n : Int) (s : ByteArray) (p : Int) (kk : LK) (sz : Nat) (ks : Row) (G : List Ent) : (f19z k nd at' n s p kk sz ks G).ev =
  (rAsk (!((ByteArray.toList s) == []))
   (rAsk (!((((ByteArray.size s) : Nat) : Int) == (64 : Int)))
    (some ((AV.tup [(AV.dat (D.list LK.nil 0 ([] : Row))), (AV.dat (D.int IntKind.i64 (6 : Int)))]), G))
    (rAsk (decide ((((List.length ks) : Nat) : Int) > (255 : Int)))
     (some ((AV.tup [(AV.dat (D.list LK.nil 0 ([] : Row))), (AV.dat (D.int IntKind.i64 (6 : Int)))]), G))
     (rAsk (decide (k < (0 : Int)))
      (some ((AV.tup [(AV.dat (D.list LK.nil 0 ([] : Row))), (AV.dat (D.int IntKind.i64 (6 : Int)))]), G))
      (rAsk (decide (k ≥ (256 : Int)))
       (some ((AV.tup [(AV.dat (D.list LK.nil 0 ([] : Row))), (AV.dat (D.int IntKind.i64 (6 : Int)))]), G))
       (rGet (fnS (fun (xs : Row) => ((AV.own true 1 xs), G)) (U 35 [(AV.dat (D.list LK.nil 0 ([] : Row))), (AV.dat (D.int IntKind.i64 (1 : Int))), (AV.dat (D.int IntKind.u64 (IntKind.wrap IntKind.u64 k)))] G)) fun x1 =>
        (rAsk (decide (nd < (0 : Int)))
         (some ((AV.tup [(AV.dat (D.list LK.nil 0 ([] : Row))), (AV.dat (D.int IntKind.i64 (6 : Int)))]), G))
         (rAsk (decide (nd ≥ (256 : Int)))
          (some ((AV.tup [(AV.dat (D.list LK.nil 0 ([] : Row))), (AV.dat (D.int IntKind.i64 (6 : Int)))]), G))
          (rGet (fnS (fun (xs : Row) => ((AV.own true 1 xs), G)) (U 35 [(AV.dat (D.list LK.any 1 (List.take (List.length x1) (List.drop 0 x1)))), (AV.dat (D.int IntKind.i64 (1 : Int))), (AV.dat (D.int IntKind.u64 (IntKind.wrap IntKind.u64 nd)))] G)) fun x2 =>
           (rAsk (decide (at' < (0 : Int)))
            (some ((AV.tup [(AV.dat (D.list LK.nil 0 ([] : Row))), (AV.dat (D.int IntKind.i64 (6 : Int)))]), G))
            (rAsk (decide (at' ≥ (65536 : Int)))
             (some ((AV.tup [(AV.dat (D.list LK.nil 0 ([] : Row))), (AV.dat (D.int IntKind.i64 (6 : Int)))]), G))
             (rGet (fnS (fun (xs : Row) => ((AV.own true 1 xs), G)) (U 35 [(AV.dat (D.list LK.any 1 (List.take (List.length x2) (List.drop 0 x2)))), (AV.dat (D.int IntKind.i64 (2 : Int))), (AV.dat (D.int IntKind.u64 (IntKind.wrap IntKind.u64 at')))] G)) fun x3 =>
              (rAsk (decide (n < (0 : Int)))
               (some ((AV.tup [(AV.dat (D.list LK.nil 0 ([] : Row))), (AV.dat (D.int IntKind.i64 (6 : Int)))]), G))
               (rAsk (decide (n ≥ (65536 : Int)))
                (some ((AV.tup [(AV.dat (D.list LK.nil 0 ([] : Row))), (AV.dat (D.int IntKind.i64 (6 : Int)))]), G))
                (rGet (fnS (fun (xs : Row) => ((AV.own true 1 xs), G)) (U 35 [(AV.dat (D.list LK.any 1 (List.take (List.length x3) (List.drop 0 x3)))), (AV.dat (D.int IntKind.i64 (2 : Int))), (AV.dat (D.int IntKind.u64 (IntKind.wrap IntKind.u64 n)))] G)) fun x4 =>
                 (rAsk (decide (p < (0 : Int)))
                  (some ((AV.tup [(AV.dat (D.list LK.nil 0 ([] : Row))), (AV.dat (D.int IntKind.i64 (6 : Int)))]), G))
                  (rAsk (decide (p ≥ (65536 : Int)))
                   (some ((AV.tup [(AV.dat (D.list LK.nil 0 ([] : Row))), (AV.dat (D.int IntKind.i64 (6 : Int)))]), G))
                   (rGet (fnS (fun (xs : Row) => ((AV.own true 1 xs), G)) (U 35 [(AV.dat (D.list LK.any 1 (List.take (List.length x4) (List.drop 0 x4)))), (AV.dat (D.int IntKind.i64 (2 : Int))), (AV.dat (D.int IntKind.u64 (IntKind.wrap IntKind.u64 p)))] G)) fun x5 =>
                    (rAsk (!((ByteArray.toList s) == []))
                     (rGet (fnS (fun (xs : Row) => ((AV.own true 1 xs), G)) (U 35 [(AV.dat (D.list LK.any 1 (List.take (List.length x5) (List.drop 0 x5)))), (AV.dat (D.int IntKind.i64 (1 : Int))), (AV.dat (D.int IntKind.u64 (1 : Int)))] G)) fun x6 =>
                      (rAsk ((decide ((0 + (List.length x6)) ≤ (List.length x6))) && (fits (TI.mk (TK.int IntKind.u8) 1 1 [(AV.dat (D.int IntKind.u8 (0 : Int)))] true) ((List.length x6) + (List.length (List.map byteRow (Array.toList (ByteArray.data s)))))))
                       (rAsk (true && (decide ((List.length x6) = (List.length x6))))
                        (rGet (fnS (fun (xs : Row) => ((AV.own true 1 xs), G)) (U 35 [(AV.dat (D.list LK.any 1 (List.take ((List.length x6) + (List.length (List.map byteRow (Array.toList (ByteArray.data s))))) (List.drop 0 (x6 ++ (List.map byteRow (Array.toList (ByteArray.data s)))))))), (AV.dat (D.int IntKind.i64 (1 : Int))), (AV.dat (D.int IntKind.u64 (IntKind.wrap IntKind.u64 (((List.length ks) : Nat) : Int))))] G)) fun x7 =>
                         (rGet (loS TT (TOrc.runs tVo) (HSa 19) lp19b (out19 G) (St.mk (mkT 0 79 [(4, (AV.sh false 0 1 0 (List.length x7))), (67, (AV.dat (D.list kk sz ks))), (68, (AV.dat (D.int IntKind.i64 (((List.length ks) : Nat) : Int)))), (69, (AV.dat (D.int IntKind.i64 (0 : Int))))]) (Mem.mk [(Option.some (Ent.row Mode.excl 1 x7))] G 0))) fun x8 =>
                          (some ((AV.tup [(AV.dat (D.list LK.any 1 (List.take (List.length x8) (List.drop 0 x8)))), (AV.dat (D.int IntKind.i64 (0 : Int)))]), G))
                         )
                        )
                        none
                       )
                       none
                      )
                     )
                     (rGet (fnS (fun (xs : Row) => ((AV.own true 1 xs), G)) (U 35 [(AV.dat (D.list LK.any 1 (List.take (List.length x5) (List.drop 0 x5)))), (AV.dat (D.int IntKind.i64 (1 : Int))), (AV.dat (D.int IntKind.u64 (0 : Int)))] G)) fun x9 =>
                      (rAsk ((decide ((0 + (List.length x9)) ≤ (List.length x9))) && (fits (TI.mk (TK.int IntKind.u8) 1 1 [(AV.dat (D.int IntKind.u8 (0 : Int)))] true) ((List.length x9) + (List.length (List.map byteRow (Array.toList (ByteArray.data s)))))))
                       (rAsk (true && (decide ((List.length x9) = (List.length x9))))
                        (rGet (fnS (fun (xs : Row) => ((AV.own true 1 xs), G)) (U 35 [(AV.dat (D.list LK.any 1 (List.take ((List.length x9) + (List.length (List.map byteRow (Array.toList (ByteArray.data s))))) (List.drop 0 (x9 ++ (List.map byteRow (Array.toList (ByteArray.data s)))))))), (AV.dat (D.int IntKind.i64 (1 : Int))), (AV.dat (D.int IntKind.u64 (IntKind.wrap IntKind.u64 (((List.length ks) : Nat) : Int))))] G)) fun x10 =>
                         (rGet (loS TT (TOrc.runs tVo) (HSa 19) lp19b (out19 G) (St.mk (mkT 0 79 [(4, (AV.sh false 0 1 0 (List.length x10))), (67, (AV.dat (D.list kk sz ks))), (68, (AV.dat (D.int IntKind.i64 (((List.length ks) : Nat) : Int)))), (69, (AV.dat (D.int IntKind.i64 (0 : Int))))]) (Mem.mk [(Option.some (Ent.row Mode.excl 1 x10))] G 0))) fun x11 =>
                          (some ((AV.tup [(AV.dat (D.list LK.any 1 (List.take (List.length x11) (List.drop 0 x11)))), (AV.dat (D.int IntKind.i64 (0 : Int)))]), G))
                         )
                        )
                        none
                       )
                       none
                      )
                     )
                    )
                   )
                  )
                 )
                )
               )
              )
             )
            )
           )
          )
         )
        )
       )
      )
     )
    )
   )
   (rAsk (decide ((((List.length ks) : Nat) : Int) > (255 : Int)))
    (some ((AV.tup [(AV.dat (D.list LK.nil 0 ([] : Row))), (AV.dat (D.int IntKind.i64 (6 : Int)))]), G))
    (rAsk (decide (k < (0 : Int)))
     (some ((AV.tup [(AV.dat (D.list LK.nil 0 ([] : Row))), (AV.dat (D.int IntKind.i64 (6 : Int)))]), G))
     (rAsk (decide (k ≥ (256 : Int)))
      (some ((AV.tup [(AV.dat (D.list LK.nil 0 ([] : Row))), (AV.dat (D.int IntKind.i64 (6 : Int)))]), G))
      (rGet (fnS (fun (xs : Row) => ((AV.own true 1 xs), G)) (U 35 [(AV.dat (D.list LK.nil 0 ([] : Row))), (AV.dat (D.int IntKind.i64 (1 : Int))), (AV.dat (D.int IntKind.u64 (IntKind.wrap IntKind.u64 k)))] G)) fun x12 =>
       (rAsk (decide (nd < (0 : Int)))
        (some ((AV.tup [(AV.dat (D.list LK.nil 0 ([] : Row))), (AV.dat (D.int IntKind.i64 (6 : Int)))]), G))
        (rAsk (decide (nd ≥ (256 : Int)))
         (some ((AV.tup [(AV.dat (D.list LK.nil 0 ([] : Row))), (AV.dat (D.int IntKind.i64 (6 : Int)))]), G))
         (rGet (fnS (fun (xs : Row) => ((AV.own true 1 xs), G)) (U 35 [(AV.dat (D.list LK.any 1 (List.take (List.length x12) (List.drop 0 x12)))), (AV.dat (D.int IntKind.i64 (1 : Int))), (AV.dat (D.int IntKind.u64 (IntKind.wrap IntKind.u64 nd)))] G)) fun x13 =>
          (rAsk (decide (at' < (0 : Int)))
           (some ((AV.tup [(AV.dat (D.list LK.nil 0 ([] : Row))), (AV.dat (D.int IntKind.i64 (6 : Int)))]), G))
           (rAsk (decide (at' ≥ (65536 : Int)))
            (some ((AV.tup [(AV.dat (D.list LK.nil 0 ([] : Row))), (AV.dat (D.int IntKind.i64 (6 : Int)))]), G))
            (rGet (fnS (fun (xs : Row) => ((AV.own true 1 xs), G)) (U 35 [(AV.dat (D.list LK.any 1 (List.take (List.length x13) (List.drop 0 x13)))), (AV.dat (D.int IntKind.i64 (2 : Int))), (AV.dat (D.int IntKind.u64 (IntKind.wrap IntKind.u64 at')))] G)) fun x14 =>
             (rAsk (decide (n < (0 : Int)))
              (some ((AV.tup [(AV.dat (D.list LK.nil 0 ([] : Row))), (AV.dat (D.int IntKind.i64 (6 : Int)))]), G))
              (rAsk (decide (n ≥ (65536 : Int)))
               (some ((AV.tup [(AV.dat (D.list LK.nil 0 ([] : Row))), (AV.dat (D.int IntKind.i64 (6 : Int)))]), G))
               (rGet (fnS (fun (xs : Row) => ((AV.own true 1 xs), G)) (U 35 [(AV.dat (D.list LK.any 1 (List.take (List.length x14) (List.drop 0 x14)))), (AV.dat (D.int IntKind.i64 (2 : Int))), (AV.dat (D.int IntKind.u64 (IntKind.wrap IntKind.u64 n)))] G)) fun x15 =>
                (rAsk (decide (p < (0 : Int)))
                 (some ((AV.tup [(AV.dat (D.list LK.nil 0 ([] : Row))), (AV.dat (D.int IntKind.i64 (6 : Int)))]), G))
                 (rAsk (decide (p ≥ (65536 : Int)))
                  (some ((AV.tup [(AV.dat (D.list LK.nil 0 ([] : Row))), (AV.dat (D.int IntKind.i64 (6 : Int)))]), G))
                  (rGet (fnS (fun (xs : Row) => ((AV.own true 1 xs), G)) (U 35 [(AV.dat (D.list LK.any 1 (List.take (List.length x15) (List.drop 0 x15)))), (AV.dat (D.int IntKind.i64 (2 : Int))), (AV.dat (D.int IntKind.u64 (IntKind.wrap IntKind.u64 p)))] G)) fun x16 =>
                   (rAsk (!((ByteArray.toList s) == []))
                    (rGet (fnS (fun (xs : Row) => ((AV.own true 1 xs), G)) (U 35 [(AV.dat (D.list LK.any 1 (List.take (List.length x16) (List.drop 0 x16)))), (AV.dat (D.int IntKind.i64 (1 : Int))), (AV.dat (D.int IntKind.u64 (1 : Int)))] G)) fun x17 =>
                     (rAsk ((decide ((0 + (List.length x17)) ≤ (List.length x17))) && (fits (TI.mk (TK.int IntKind.u8) 1 1 [(AV.dat (D.int IntKind.u8 (0 : Int)))] true) ((List.length x17) + (List.length (List.map byteRow (Array.toList (ByteArray.data s)))))))
                      (rAsk (true && (decide ((List.length x17) = (List.length x17))))
                       (rGet (fnS (fun (xs : Row) => ((AV.own true 1 xs), G)) (U 35 [(AV.dat (D.list LK.any 1 (List.take ((List.length x17) + (List.length (List.map byteRow (Array.toList (ByteArray.data s))))) (List.drop 0 (x17 ++ (List.map byteRow (Array.toList (ByteArray.data s)))))))), (AV.dat (D.int IntKind.i64 (1 : Int))), (AV.dat (D.int IntKind.u64 (IntKind.wrap IntKind.u64 (((List.length ks) : Nat) : Int))))] G)) fun x18 =>
                        (rGet (loS TT (TOrc.runs tVo) (HSa 19) lp19b (out19 G) (St.mk (mkT 0 79 [(4, (AV.sh false 0 1 0 (List.length x18))), (67, (AV.dat (D.list kk sz ks))), (68, (AV.dat (D.int IntKind.i64 (((List.length ks) : Nat) : Int)))), (69, (AV.dat (D.int IntKind.i64 (0 : Int))))]) (Mem.mk [(Option.some (Ent.row Mode.excl 1 x18))] G 0))) fun x19 =>
                         (some ((AV.tup [(AV.dat (D.list LK.any 1 (List.take (List.length x19) (List.drop 0 x19)))), (AV.dat (D.int IntKind.i64 (0 : Int)))]), G))
                        )
                       )
                       none
                      )
                      none
                     )
                    )
                    (rGet (fnS (fun (xs : Row) => ((AV.own true 1 xs), G)) (U 35 [(AV.dat (D.list LK.any 1 (List.take (List.length x16) (List.drop 0 x16)))), (AV.dat (D.int IntKind.i64 (1 : Int))), (AV.dat (D.int IntKind.u64 (0 : Int)))] G)) fun x20 =>
                     (rAsk ((decide ((0 + (List.length x20)) ≤ (List.length x20))) && (fits (TI.mk (TK.int IntKind.u8) 1 1 [(AV.dat (D.int IntKind.u8 (0 : Int)))] true) ((List.length x20) + (List.length (List.map byteRow (Array.toList (ByteArray.data s)))))))
                      (rAsk (true && (decide ((List.length x20) = (List.length x20))))
                       (rGet (fnS (fun (xs : Row) => ((AV.own true 1 xs), G)) (U 35 [(AV.dat (D.list LK.any 1 (List.take ((List.length x20) + (List.length (List.map byteRow (Array.toList (ByteArray.data s))))) (List.drop 0 (x20 ++ (List.map byteRow (Array.toList (ByteArray.data s)))))))), (AV.dat (D.int IntKind.i64 (1 : Int))), (AV.dat (D.int IntKind.u64 (IntKind.wrap IntKind.u64 (((List.length ks) : Nat) : Int))))] G)) fun x21 =>
                        (rGet (loS TT (TOrc.runs tVo) (HSa 19) lp19b (out19 G) (St.mk (mkT 0 79 [(4, (AV.sh false 0 1 0 (List.length x21))), (67, (AV.dat (D.list kk sz ks))), (68, (AV.dat (D.int IntKind.i64 (((List.length ks) : Nat) : Int)))), (69, (AV.dat (D.int IntKind.i64 (0 : Int))))]) (Mem.mk [(Option.some (Ent.row Mode.excl 1 x21))] G 0))) fun x22 =>
                         (some ((AV.tup [(AV.dat (D.list LK.any 1 (List.take (List.length x22) (List.drop 0 x22)))), (AV.dat (D.int IntKind.i64 (0 : Int)))]), G))
                        )
                       )
                       none
                      )
                      none
                     )
                    )
                   )
                  )
                 )
                )
               )
              )
             )
            )
           )
          )
         )
        )
       )
      )
     )
    )
   )
  )
  := by kernel_rfl

theorem f22z_eq (k nd at' n : Int) (s : ByteArray) (p : Int) (kk : LK) (sz : Nat) (ks : Row) (k' nd' at'' n' : Int) (s' : ByteArray) (p' : Int) (kk' : LK) (sz' : Nat) (ks' : Row) (G : List Ent) : (f22z k nd at' n s p kk sz ks k' nd' at'' n' s' p' kk' sz' ks' G).ev =
  (rAsk (k != k')
   (some ((AV.dat (D.bool false)), G))
   (rAsk (nd != nd')
    (some ((AV.dat (D.bool false)), G))
    (rAsk (at' != at'')
     (some ((AV.dat (D.bool false)), G))
     (rAsk (n != n')
      (some ((AV.dat (D.bool false)), G))
      (rAsk (!((ByteArray.toList s) == (ByteArray.toList s')))
       (some ((AV.dat (D.bool false)), G))
       (rAsk (p != p')
        (some ((AV.dat (D.bool false)), G))
        (rAsk ((((List.length ks) : Nat) : Int) != (((List.length ks') : Nat) : Int))
         (some ((AV.dat (D.bool false)), G))
         (rGet (loS TT (TOrc.runs tNone) (HSa 22) lp22 (out22 G) (St.mk (mkT 0 73 [(2, (AV.ptr (Ref.loc 0) 0)), (3, (AV.ptr (Ref.loc 1) 0)), (5, (AV.dat (D.int IntKind.i64 (0 : Int))))]) (Mem.mk [(Option.some (Ent.obj [(AV.dat (D.int IntKind.i64 k)), (AV.dat (D.int IntKind.i64 nd)), (AV.dat (D.int IntKind.i64 at')), (AV.dat (D.int IntKind.i64 n)), (AV.dat (D.str s)), (AV.dat (D.int IntKind.i64 p)), (AV.dat (D.list kk sz ks))])), (Option.some (Ent.obj [(AV.dat (D.int IntKind.i64 k')), (AV.dat (D.int IntKind.i64 nd')), (AV.dat (D.int IntKind.i64 at'')), (AV.dat (D.int IntKind.i64 n')), (AV.dat (D.str s')), (AV.dat (D.int IntKind.i64 p')), (AV.dat (D.list kk' sz' ks'))]))] G 0))) fun x1 =>
          (rAsk x1
           (some ((AV.dat (D.bool true)), G))
           (some ((AV.dat (D.bool false)), G))
          )
         )
        )
       )
      )
     )
    )
   )
  )
  := by kernel_rfl

theorem loop19z {sz : Nat} {l : List UInt8} {kk : LK} {keep : List Bool} {G : List Ent} (hl : l.length ≤ 99000) (hk : keep.length ≤ 300) (hz : keep ≠ [] → sz = 1) :
    LoopTo TT tVo.runs (HSa 19) lp19b (inv19z (bRow l) sz kk (tRow keep) G 0) (out19 G (bRow (l ++ flags keep))) := by
  have key := LoopTo.count (T := TT) (orc := tVo) (H := HSa 19) (lo := noLo) (b := lp19b) (LoOk2.no _) (N := keep.length) (inv := fun i => inv19z (bRow (l ++ flags (keep.take i))) sz kk (tRow keep) G i) (ex := .exit 2) (s := (out19 G (bRow (l ++ flags keep))).2)
    (fun i hi => ?_) ?_ (by simp) keep.length 0 (by omega)
  · simp only [List.take_zero, flags, List.map_nil, List.append_nil] at key ⊢
    exact key
  · show (rk19z _ sz kk (tRow keep) G i).run = _
    rw [← Tr.ev_run, rk19z_eq]
    simp only [List.drop_zero, List.take_length]
    have hg := tRow_get hi
    obtain rfl : sz = 1 := hz (fun h => by rw [h] at hi; simp at hi)
    have hlen : (l ++ flags (keep.take i)).length ≤ 100000 := by simp [flags]; omega
    refine aT (by first | with_reducible rfl | with_reducible assumption | (simp only [Bool.and_eq_true, Bool.and_eq_false_iff, Bool.or_eq_true, Bool.true_and, Bool.and_true, decide_eq_true_eq, decide_eq_false_iff_not, Bool.not_eq_true', Bool.not_eq_false', beq_iff_eq, beq_eq_false_iff_ne, bne_iff_ne, bne_eq_false_iff_eq, ne_eq, fits_iff, whole_iff, List.length_append, List.length_map, List.length_cons, List.length_nil, List.length_take, List.length_drop, bRow_length, tRow_length, List.nil_append, Nat.zero_add, Nat.add_zero, Int.toNat_natCast, and_self, and_true, true_and, true_or, or_true, false_or, or_false, not_true_eq_false, not_false_eq_true] <;> omega)) ?_
    refine aT (by first | with_reducible rfl | with_reducible assumption | (simp only [Bool.and_eq_true, Bool.and_eq_false_iff, Bool.or_eq_true, Bool.true_and, Bool.and_true, decide_eq_true_eq, decide_eq_false_iff_not, Bool.not_eq_true', Bool.not_eq_false', beq_iff_eq, beq_eq_false_iff_ne, bne_iff_ne, bne_eq_false_iff_eq, ne_eq, fits_iff, whole_iff, List.length_append, List.length_map, List.length_cons, List.length_nil, List.length_take, List.length_drop, bRow_length, tRow_length, List.nil_append, Nat.zero_add, Nat.add_zero, Int.toNat_natCast, and_self, and_true, true_and, true_or, or_true, false_or, or_false, not_true_eq_false, not_false_eq_true] <;> omega)) ?_
    refine gStep (by rw [Int.toNat_natCast]; exact hg) ?_
    refine gStep rfl ?_
    refine gStep rfl ?_
    have fin : ∀ b : Bool, keep[i] = b → bRow (l ++ flags (keep.take i) ++ be1 (if b then 1 else 0)) = bRow (l ++ flags (keep.take (i + 1))) := by
      intro b hb
      rw [take_succ hi, hb]
      cases b <;> simp [flags, fl, be1]
    have hw : IntKind.wrap .i64 ((i : Int) + 1) = ((i + 1 : Nat) : Int) := by rw [IntKind.wrap_i64]; omega
    cases hb : keep[i] with
    | true =>
      refine aT rfl ?_
      refine gStep (c35_1 (by omega) hlen) ?_
      rw [show be1 1 = be1 (if true then 1 else 0) from rfl, fin true hb, hw]
      rfl
    | false =>
      refine aF rfl ?_
      refine gStep (c35_1 (by omega) hlen) ?_
      rw [show be1 0 = be1 (if false then 1 else 0) from rfl, fin false hb, hw]
      rfl
  · show (rk19z _ sz kk (tRow keep) G keep.length).run = _
    rw [← Tr.ev_run, rk19z_eq]
    refine aF (by first | with_reducible rfl | with_reducible assumption | (simp only [Bool.and_eq_true, Bool.and_eq_false_iff, Bool.or_eq_true, Bool.true_and, Bool.and_true, decide_eq_true_eq, decide_eq_false_iff_not, Bool.not_eq_true', Bool.not_eq_false', beq_iff_eq, beq_eq_false_iff_ne, bne_iff_ne, bne_eq_false_iff_eq, ne_eq, fits_iff, whole_iff, List.length_append, List.length_map, List.length_cons, List.length_nil, List.length_take, List.length_drop, bRow_length, tRow_length, List.nil_append, Nat.zero_add, Nat.add_zero, Int.toNat_natCast, and_self, and_true, true_and, true_or, or_true, false_or, or_false, not_true_eq_false, not_false_eq_true] <;> omega)) ?_
    rw [List.take_length]
    rfl

theorem loop22z {sz sz' : Nat} {k nd at' n : Int} {s : ByteArray} {p : Int} {kk : LK} {a : List Bool} {k' nd' at'' n' : Int} {s' : ByteArray} {p' : Int} {kk' : LK} {b : List Bool} {G : List Ent} (hab : a.length = b.length) (hm : a.length ≤ maxLen) (hz : a ≠ [] → sz = 1) (hz' : b ≠ [] → sz' = 1) :
    LoopTo TT tNone.runs (HSa 22) lp22 (inv22z k nd at' n s p kk sz (tRow a) k' nd' at'' n' s' p' kk' sz' (tRow b) G 0) (out22 G (decide (a = b))) := by
  have key := LoopTo.all (T := TT) (orc := tNone) (H := HSa 22) (lo := noLo) (b := lp22) (LoOk2.no _) (N := a.length) (inv := fun i => inv22z k nd at' n s p kk sz (tRow a) k' nd' at'' n' s' p' kk' sz' (tRow b) G i) (p := fun i => a[i]? == b[i]?) (out := out22 G)
    (fun i hi hp => ?_) (fun i hi hp => ?_) ?_ out22_n a.length 0 (by omega) (decide (a = b)) (by rw [decide_eq_true_eq]; exact (eq_iff_get hab).symm)
  · exact key
  · show (rk22z k nd at' n s p kk sz (tRow a) k' nd' at'' n' s' p' kk' sz' (tRow b) G i).run = _
    rw [← Tr.ev_run, rk22z_eq]
    have hi' : i < b.length := by omega
    obtain rfl : sz = 1 := hz (fun h => by rw [h] at hi; simp at hi)
    obtain rfl : sz' = 1 := hz' (fun h => by rw [h] at hi'; simp at hi')
    have ga := tRow_get hi
    have gb := tRow_get hi'
    have hw : IntKind.wrap .i64 ((i : Int) + 1) = ((i + 1 : Nat) : Int) := by unfold maxLen at hm; rw [IntKind.wrap_i64]; omega
    (repeat first
    | ((with_reducible refine aT ?_ ?_); · first | with_reducible rfl | with_reducible assumption | (simp only [Bool.and_eq_true, Bool.and_eq_false_iff, Bool.or_eq_true, Bool.true_and, Bool.and_true, decide_eq_true_eq, decide_eq_false_iff_not, Bool.not_eq_true', Bool.not_eq_false', beq_iff_eq, beq_eq_false_iff_ne, bne_iff_ne, bne_eq_false_iff_eq, ne_eq, fits_iff, whole_iff, List.length_append, List.length_map, List.length_cons, List.length_nil, List.length_take, List.length_drop, bRow_length, tRow_length, List.nil_append, Nat.zero_add, Nat.add_zero, Int.toNat_natCast, and_self, and_true, true_and, true_or, or_true, false_or, or_false, not_true_eq_false, not_false_eq_true] <;> omega))
    | ((with_reducible refine aF ?_ ?_); · first | with_reducible rfl | with_reducible assumption | (simp only [Bool.and_eq_true, Bool.and_eq_false_iff, Bool.or_eq_true, Bool.true_and, Bool.and_true, decide_eq_true_eq, decide_eq_false_iff_not, Bool.not_eq_true', Bool.not_eq_false', beq_iff_eq, beq_eq_false_iff_ne, bne_iff_ne, bne_eq_false_iff_eq, ne_eq, fits_iff, whole_iff, List.length_append, List.length_map, List.length_cons, List.length_nil, List.length_take, List.length_drop, bRow_length, tRow_length, List.nil_append, Nat.zero_add, Nat.add_zero, Int.toNat_natCast, and_self, and_true, true_and, true_or, or_true, false_or, or_false, not_true_eq_false, not_false_eq_true] <;> omega))
    | ((with_reducible apply gStep); · first | exact rfl | (rw [Int.toNat_natCast]; exact ga) | (rw [Int.toNat_natCast]; exact gb)))
    refine aF (by simpa [hi, hi'] using hp) ?_
    rw [hw]
    rfl
  · show (rk22z k nd at' n s p kk sz (tRow a) k' nd' at'' n' s' p' kk' sz' (tRow b) G i).run = _
    rw [← Tr.ev_run, rk22z_eq]
    have hi' : i < b.length := by omega
    obtain rfl : sz = 1 := hz (fun h => by rw [h] at hi; simp at hi)
    obtain rfl : sz' = 1 := hz' (fun h => by rw [h] at hi'; simp at hi')
    have ga := tRow_get hi
    have gb := tRow_get hi'
    (repeat first
    | ((with_reducible refine aT ?_ ?_); · first | with_reducible rfl | with_reducible assumption | (simp only [Bool.and_eq_true, Bool.and_eq_false_iff, Bool.or_eq_true, Bool.true_and, Bool.and_true, decide_eq_true_eq, decide_eq_false_iff_not, Bool.not_eq_true', Bool.not_eq_false', beq_iff_eq, beq_eq_false_iff_ne, bne_iff_ne, bne_eq_false_iff_eq, ne_eq, fits_iff, whole_iff, List.length_append, List.length_map, List.length_cons, List.length_nil, List.length_take, List.length_drop, bRow_length, tRow_length, List.nil_append, Nat.zero_add, Nat.add_zero, Int.toNat_natCast, and_self, and_true, true_and, true_or, or_true, false_or, or_false, not_true_eq_false, not_false_eq_true] <;> omega))
    | ((with_reducible refine aF ?_ ?_); · first | with_reducible rfl | with_reducible assumption | (simp only [Bool.and_eq_true, Bool.and_eq_false_iff, Bool.or_eq_true, Bool.true_and, Bool.and_true, decide_eq_true_eq, decide_eq_false_iff_not, Bool.not_eq_true', Bool.not_eq_false', beq_iff_eq, beq_eq_false_iff_ne, bne_iff_ne, bne_eq_false_iff_eq, ne_eq, fits_iff, whole_iff, List.length_append, List.length_map, List.length_cons, List.length_nil, List.length_take, List.length_drop, bRow_length, tRow_length, List.nil_append, Nat.zero_add, Nat.add_zero, Int.toNat_natCast, and_self, and_true, true_and, true_or, or_true, false_or, or_false, not_true_eq_false, not_false_eq_true] <;> omega))
    | ((with_reducible apply gStep); · first | exact rfl | (rw [Int.toNat_natCast]; exact ga) | (rw [Int.toNat_natCast]; exact gb)))
    refine aT (by simpa [hi, hi'] using hp) ?_
    rfl
  · show (rk22z k nd at' n s p kk sz (tRow a) k' nd' at'' n' s' p' kk' sz' (tRow b) G a.length).run = _
    rw [← Tr.ev_run, rk22z_eq]
    refine aF (by first | with_reducible rfl | with_reducible assumption | (simp only [Bool.and_eq_true, Bool.and_eq_false_iff, Bool.or_eq_true, Bool.true_and, Bool.and_true, decide_eq_true_eq, decide_eq_false_iff_not, Bool.not_eq_true', Bool.not_eq_false', beq_iff_eq, beq_eq_false_iff_ne, bne_iff_ne, bne_eq_false_iff_eq, ne_eq, fits_iff, whole_iff, List.length_append, List.length_map, List.length_cons, List.length_nil, List.length_take, List.length_drop, bRow_length, tRow_length, List.nil_append, Nat.zero_add, Nat.add_zero, Int.toNat_natCast, and_self, and_true, true_and, true_or, or_true, false_or, or_false, not_true_eq_false, not_false_eq_true] <;> omega)) ?_
    rfl

attribute [local irreducible] U fnS loS

set_option maxHeartbeats 4000000 in
theorem f19z_run {sz : Nat} {k nd at' n : Int} {s : ByteArray} {p : Int} {kk : LK} {keep : List Bool} {G : List Ent} (hsz : keep ≠ [] → sz = 1) : (f19z k nd at' n s p kk sz (tRow keep) G).run = some (res19 G (decide (okS k nd at' n s p keep)) (putB k nd at' n s p keep)) := by
  rw [← Tr.ev_run, f19z_eq]
  simp only [List.drop_zero, List.take_length, take_len_app, map_byteRow, Bool.true_and]
  have e0 := toList_nil s
  have el := toList_len s
  have hz : s.size = 0 ∨ 0 < s.size := by omega
  rcases hz with z | z
  all_goals
    by_cases a1 : s.size = 0 ∨ s.size = 64
    case neg => rw [show decide (okS k nd at' n s p keep) = false from decide_eq_false (by unfold okS; omega)]; ((repeat first
    | ((with_reducible refine aT ?_ ?_); · first | with_reducible rfl | with_reducible assumption | (simp only [Bool.and_eq_true, Bool.and_eq_false_iff, Bool.or_eq_true, Bool.true_and, Bool.and_true, decide_eq_true_eq, decide_eq_false_iff_not, Bool.not_eq_true', Bool.not_eq_false', beq_iff_eq, beq_eq_false_iff_ne, bne_iff_ne, bne_eq_false_iff_eq, ne_eq, fits_iff, whole_iff, List.length_append, List.length_map, List.length_cons, List.length_nil, List.length_take, List.length_drop, bRow_length, tRow_length, List.nil_append, Nat.zero_add, Nat.add_zero, Int.toNat_natCast, and_self, and_true, true_and, true_or, or_true, false_or, or_false, not_true_eq_false, not_false_eq_true, e0] <;> omega))
    | ((with_reducible refine aF ?_ ?_); · first | with_reducible rfl | with_reducible assumption | (simp only [Bool.and_eq_true, Bool.and_eq_false_iff, Bool.or_eq_true, Bool.true_and, Bool.and_true, decide_eq_true_eq, decide_eq_false_iff_not, Bool.not_eq_true', Bool.not_eq_false', beq_iff_eq, beq_eq_false_iff_ne, bne_iff_ne, bne_eq_false_iff_eq, ne_eq, fits_iff, whole_iff, List.length_append, List.length_map, List.length_cons, List.length_nil, List.length_take, List.length_drop, bRow_length, tRow_length, List.nil_append, Nat.zero_add, Nat.add_zero, Int.toNat_natCast, and_self, and_true, true_and, true_or, or_true, false_or, or_false, not_true_eq_false, not_false_eq_true, e0] <;> omega))
    | ((with_reducible apply gStep); · first | exact rfl))); rfl
    by_cases a2 : keep.length ≤ 255
    case neg => rw [show decide (okS k nd at' n s p keep) = false from decide_eq_false (by unfold okS; omega)]; ((repeat first
    | ((with_reducible refine aT ?_ ?_); · first | with_reducible rfl | with_reducible assumption | (simp only [Bool.and_eq_true, Bool.and_eq_false_iff, Bool.or_eq_true, Bool.true_and, Bool.and_true, decide_eq_true_eq, decide_eq_false_iff_not, Bool.not_eq_true', Bool.not_eq_false', beq_iff_eq, beq_eq_false_iff_ne, bne_iff_ne, bne_eq_false_iff_eq, ne_eq, fits_iff, whole_iff, List.length_append, List.length_map, List.length_cons, List.length_nil, List.length_take, List.length_drop, bRow_length, tRow_length, List.nil_append, Nat.zero_add, Nat.add_zero, Int.toNat_natCast, and_self, and_true, true_and, true_or, or_true, false_or, or_false, not_true_eq_false, not_false_eq_true, e0] <;> omega))
    | ((with_reducible refine aF ?_ ?_); · first | with_reducible rfl | with_reducible assumption | (simp only [Bool.and_eq_true, Bool.and_eq_false_iff, Bool.or_eq_true, Bool.true_and, Bool.and_true, decide_eq_true_eq, decide_eq_false_iff_not, Bool.not_eq_true', Bool.not_eq_false', beq_iff_eq, beq_eq_false_iff_ne, bne_iff_ne, bne_eq_false_iff_eq, ne_eq, fits_iff, whole_iff, List.length_append, List.length_map, List.length_cons, List.length_nil, List.length_take, List.length_drop, bRow_length, tRow_length, List.nil_append, Nat.zero_add, Nat.add_zero, Int.toNat_natCast, and_self, and_true, true_and, true_or, or_true, false_or, or_false, not_true_eq_false, not_false_eq_true, e0] <;> omega))
    | ((with_reducible apply gStep); · first | exact rfl))); rfl
    by_cases a3 : 0 ≤ k
    case neg => rw [show decide (okS k nd at' n s p keep) = false from decide_eq_false (by unfold okS; omega)]; ((repeat first
    | ((with_reducible refine aT ?_ ?_); · first | with_reducible rfl | with_reducible assumption | (simp only [Bool.and_eq_true, Bool.and_eq_false_iff, Bool.or_eq_true, Bool.true_and, Bool.and_true, decide_eq_true_eq, decide_eq_false_iff_not, Bool.not_eq_true', Bool.not_eq_false', beq_iff_eq, beq_eq_false_iff_ne, bne_iff_ne, bne_eq_false_iff_eq, ne_eq, fits_iff, whole_iff, List.length_append, List.length_map, List.length_cons, List.length_nil, List.length_take, List.length_drop, bRow_length, tRow_length, List.nil_append, Nat.zero_add, Nat.add_zero, Int.toNat_natCast, and_self, and_true, true_and, true_or, or_true, false_or, or_false, not_true_eq_false, not_false_eq_true, e0] <;> omega))
    | ((with_reducible refine aF ?_ ?_); · first | with_reducible rfl | with_reducible assumption | (simp only [Bool.and_eq_true, Bool.and_eq_false_iff, Bool.or_eq_true, Bool.true_and, Bool.and_true, decide_eq_true_eq, decide_eq_false_iff_not, Bool.not_eq_true', Bool.not_eq_false', beq_iff_eq, beq_eq_false_iff_ne, bne_iff_ne, bne_eq_false_iff_eq, ne_eq, fits_iff, whole_iff, List.length_append, List.length_map, List.length_cons, List.length_nil, List.length_take, List.length_drop, bRow_length, tRow_length, List.nil_append, Nat.zero_add, Nat.add_zero, Int.toNat_natCast, and_self, and_true, true_and, true_or, or_true, false_or, or_false, not_true_eq_false, not_false_eq_true, e0] <;> omega))
    | ((with_reducible apply gStep); · first | exact rfl))); rfl
    by_cases a4 : k < 256
    case neg => rw [show decide (okS k nd at' n s p keep) = false from decide_eq_false (by unfold okS; omega)]; ((repeat first
    | ((with_reducible refine aT ?_ ?_); · first | with_reducible rfl | with_reducible assumption | (simp only [Bool.and_eq_true, Bool.and_eq_false_iff, Bool.or_eq_true, Bool.true_and, Bool.and_true, decide_eq_true_eq, decide_eq_false_iff_not, Bool.not_eq_true', Bool.not_eq_false', beq_iff_eq, beq_eq_false_iff_ne, bne_iff_ne, bne_eq_false_iff_eq, ne_eq, fits_iff, whole_iff, List.length_append, List.length_map, List.length_cons, List.length_nil, List.length_take, List.length_drop, bRow_length, tRow_length, List.nil_append, Nat.zero_add, Nat.add_zero, Int.toNat_natCast, and_self, and_true, true_and, true_or, or_true, false_or, or_false, not_true_eq_false, not_false_eq_true, e0] <;> omega))
    | ((with_reducible refine aF ?_ ?_); · first | with_reducible rfl | with_reducible assumption | (simp only [Bool.and_eq_true, Bool.and_eq_false_iff, Bool.or_eq_true, Bool.true_and, Bool.and_true, decide_eq_true_eq, decide_eq_false_iff_not, Bool.not_eq_true', Bool.not_eq_false', beq_iff_eq, beq_eq_false_iff_ne, bne_iff_ne, bne_eq_false_iff_eq, ne_eq, fits_iff, whole_iff, List.length_append, List.length_map, List.length_cons, List.length_nil, List.length_take, List.length_drop, bRow_length, tRow_length, List.nil_append, Nat.zero_add, Nat.add_zero, Int.toNat_natCast, and_self, and_true, true_and, true_or, or_true, false_or, or_false, not_true_eq_false, not_false_eq_true, e0] <;> omega))
    | ((with_reducible apply gStep); · first | exact rfl))); rfl
    have wk : IntKind.wrap .u64 k = k := IntWalk.u64_in k (by omega)
    simp only [wk]
    clear wk
    by_cases a5 : 0 ≤ nd
    case neg => rw [show decide (okS k nd at' n s p keep) = false from decide_eq_false (by unfold okS; omega)]; ((repeat first
    | ((with_reducible refine aT ?_ ?_); · first | with_reducible rfl | with_reducible assumption | (simp only [Bool.and_eq_true, Bool.and_eq_false_iff, Bool.or_eq_true, Bool.true_and, Bool.and_true, decide_eq_true_eq, decide_eq_false_iff_not, Bool.not_eq_true', Bool.not_eq_false', beq_iff_eq, beq_eq_false_iff_ne, bne_iff_ne, bne_eq_false_iff_eq, ne_eq, fits_iff, whole_iff, List.length_append, List.length_map, List.length_cons, List.length_nil, List.length_take, List.length_drop, bRow_length, tRow_length, List.nil_append, Nat.zero_add, Nat.add_zero, Int.toNat_natCast, and_self, and_true, true_and, true_or, or_true, false_or, or_false, not_true_eq_false, not_false_eq_true, e0] <;> omega))
    | ((with_reducible refine aF ?_ ?_); · first | with_reducible rfl | with_reducible assumption | (simp only [Bool.and_eq_true, Bool.and_eq_false_iff, Bool.or_eq_true, Bool.true_and, Bool.and_true, decide_eq_true_eq, decide_eq_false_iff_not, Bool.not_eq_true', Bool.not_eq_false', beq_iff_eq, beq_eq_false_iff_ne, bne_iff_ne, bne_eq_false_iff_eq, ne_eq, fits_iff, whole_iff, List.length_append, List.length_map, List.length_cons, List.length_nil, List.length_take, List.length_drop, bRow_length, tRow_length, List.nil_append, Nat.zero_add, Nat.add_zero, Int.toNat_natCast, and_self, and_true, true_and, true_or, or_true, false_or, or_false, not_true_eq_false, not_false_eq_true, e0] <;> omega))
    | ((with_reducible apply gStep); · first | exact rfl | exact c35_0 (by omega)))); rfl
    by_cases a6 : nd < 256
    case neg => rw [show decide (okS k nd at' n s p keep) = false from decide_eq_false (by unfold okS; omega)]; ((repeat first
    | ((with_reducible refine aT ?_ ?_); · first | with_reducible rfl | with_reducible assumption | (simp only [Bool.and_eq_true, Bool.and_eq_false_iff, Bool.or_eq_true, Bool.true_and, Bool.and_true, decide_eq_true_eq, decide_eq_false_iff_not, Bool.not_eq_true', Bool.not_eq_false', beq_iff_eq, beq_eq_false_iff_ne, bne_iff_ne, bne_eq_false_iff_eq, ne_eq, fits_iff, whole_iff, List.length_append, List.length_map, List.length_cons, List.length_nil, List.length_take, List.length_drop, bRow_length, tRow_length, List.nil_append, Nat.zero_add, Nat.add_zero, Int.toNat_natCast, and_self, and_true, true_and, true_or, or_true, false_or, or_false, not_true_eq_false, not_false_eq_true, e0] <;> omega))
    | ((with_reducible refine aF ?_ ?_); · first | with_reducible rfl | with_reducible assumption | (simp only [Bool.and_eq_true, Bool.and_eq_false_iff, Bool.or_eq_true, Bool.true_and, Bool.and_true, decide_eq_true_eq, decide_eq_false_iff_not, Bool.not_eq_true', Bool.not_eq_false', beq_iff_eq, beq_eq_false_iff_ne, bne_iff_ne, bne_eq_false_iff_eq, ne_eq, fits_iff, whole_iff, List.length_append, List.length_map, List.length_cons, List.length_nil, List.length_take, List.length_drop, bRow_length, tRow_length, List.nil_append, Nat.zero_add, Nat.add_zero, Int.toNat_natCast, and_self, and_true, true_and, true_or, or_true, false_or, or_false, not_true_eq_false, not_false_eq_true, e0] <;> omega))
    | ((with_reducible apply gStep); · first | exact rfl | exact c35_0 (by omega)))); rfl
    have wnd : IntKind.wrap .u64 nd = nd := IntWalk.u64_in nd (by omega)
    simp only [wnd]
    clear wnd
    by_cases a7 : 0 ≤ at'
    case neg => rw [show decide (okS k nd at' n s p keep) = false from decide_eq_false (by unfold okS; omega)]; ((repeat first
    | ((with_reducible refine aT ?_ ?_); · first | with_reducible rfl | with_reducible assumption | (simp only [Bool.and_eq_true, Bool.and_eq_false_iff, Bool.or_eq_true, Bool.true_and, Bool.and_true, decide_eq_true_eq, decide_eq_false_iff_not, Bool.not_eq_true', Bool.not_eq_false', beq_iff_eq, beq_eq_false_iff_ne, bne_iff_ne, bne_eq_false_iff_eq, ne_eq, fits_iff, whole_iff, List.length_append, List.length_map, List.length_cons, List.length_nil, List.length_take, List.length_drop, bRow_length, tRow_length, List.nil_append, Nat.zero_add, Nat.add_zero, Int.toNat_natCast, and_self, and_true, true_and, true_or, or_true, false_or, or_false, not_true_eq_false, not_false_eq_true, e0] <;> omega))
    | ((with_reducible refine aF ?_ ?_); · first | with_reducible rfl | with_reducible assumption | (simp only [Bool.and_eq_true, Bool.and_eq_false_iff, Bool.or_eq_true, Bool.true_and, Bool.and_true, decide_eq_true_eq, decide_eq_false_iff_not, Bool.not_eq_true', Bool.not_eq_false', beq_iff_eq, beq_eq_false_iff_ne, bne_iff_ne, bne_eq_false_iff_eq, ne_eq, fits_iff, whole_iff, List.length_append, List.length_map, List.length_cons, List.length_nil, List.length_take, List.length_drop, bRow_length, tRow_length, List.nil_append, Nat.zero_add, Nat.add_zero, Int.toNat_natCast, and_self, and_true, true_and, true_or, or_true, false_or, or_false, not_true_eq_false, not_false_eq_true, e0] <;> omega))
    | ((with_reducible apply gStep); · first | exact rfl | exact c35_0 (by omega) | exact c35_1 (by omega) (by simp [be1_len, be2_len])))); rfl
    by_cases a8 : at' < 65536
    case neg => rw [show decide (okS k nd at' n s p keep) = false from decide_eq_false (by unfold okS; omega)]; ((repeat first
    | ((with_reducible refine aT ?_ ?_); · first | with_reducible rfl | with_reducible assumption | (simp only [Bool.and_eq_true, Bool.and_eq_false_iff, Bool.or_eq_true, Bool.true_and, Bool.and_true, decide_eq_true_eq, decide_eq_false_iff_not, Bool.not_eq_true', Bool.not_eq_false', beq_iff_eq, beq_eq_false_iff_ne, bne_iff_ne, bne_eq_false_iff_eq, ne_eq, fits_iff, whole_iff, List.length_append, List.length_map, List.length_cons, List.length_nil, List.length_take, List.length_drop, bRow_length, tRow_length, List.nil_append, Nat.zero_add, Nat.add_zero, Int.toNat_natCast, and_self, and_true, true_and, true_or, or_true, false_or, or_false, not_true_eq_false, not_false_eq_true, e0] <;> omega))
    | ((with_reducible refine aF ?_ ?_); · first | with_reducible rfl | with_reducible assumption | (simp only [Bool.and_eq_true, Bool.and_eq_false_iff, Bool.or_eq_true, Bool.true_and, Bool.and_true, decide_eq_true_eq, decide_eq_false_iff_not, Bool.not_eq_true', Bool.not_eq_false', beq_iff_eq, beq_eq_false_iff_ne, bne_iff_ne, bne_eq_false_iff_eq, ne_eq, fits_iff, whole_iff, List.length_append, List.length_map, List.length_cons, List.length_nil, List.length_take, List.length_drop, bRow_length, tRow_length, List.nil_append, Nat.zero_add, Nat.add_zero, Int.toNat_natCast, and_self, and_true, true_and, true_or, or_true, false_or, or_false, not_true_eq_false, not_false_eq_true, e0] <;> omega))
    | ((with_reducible apply gStep); · first | exact rfl | exact c35_0 (by omega) | exact c35_1 (by omega) (by simp [be1_len, be2_len])))); rfl
    have wat : IntKind.wrap .u64 at' = at' := IntWalk.u64_in at' (by omega)
    simp only [wat]
    clear wat
    by_cases a9 : 0 ≤ n
    case neg => rw [show decide (okS k nd at' n s p keep) = false from decide_eq_false (by unfold okS; omega)]; ((repeat first
    | ((with_reducible refine aT ?_ ?_); · first | with_reducible rfl | with_reducible assumption | (simp only [Bool.and_eq_true, Bool.and_eq_false_iff, Bool.or_eq_true, Bool.true_and, Bool.and_true, decide_eq_true_eq, decide_eq_false_iff_not, Bool.not_eq_true', Bool.not_eq_false', beq_iff_eq, beq_eq_false_iff_ne, bne_iff_ne, bne_eq_false_iff_eq, ne_eq, fits_iff, whole_iff, List.length_append, List.length_map, List.length_cons, List.length_nil, List.length_take, List.length_drop, bRow_length, tRow_length, List.nil_append, Nat.zero_add, Nat.add_zero, Int.toNat_natCast, and_self, and_true, true_and, true_or, or_true, false_or, or_false, not_true_eq_false, not_false_eq_true, e0] <;> omega))
    | ((with_reducible refine aF ?_ ?_); · first | with_reducible rfl | with_reducible assumption | (simp only [Bool.and_eq_true, Bool.and_eq_false_iff, Bool.or_eq_true, Bool.true_and, Bool.and_true, decide_eq_true_eq, decide_eq_false_iff_not, Bool.not_eq_true', Bool.not_eq_false', beq_iff_eq, beq_eq_false_iff_ne, bne_iff_ne, bne_eq_false_iff_eq, ne_eq, fits_iff, whole_iff, List.length_append, List.length_map, List.length_cons, List.length_nil, List.length_take, List.length_drop, bRow_length, tRow_length, List.nil_append, Nat.zero_add, Nat.add_zero, Int.toNat_natCast, and_self, and_true, true_and, true_or, or_true, false_or, or_false, not_true_eq_false, not_false_eq_true, e0] <;> omega))
    | ((with_reducible apply gStep); · first | exact rfl | exact c35_0 (by omega) | exact c35_1 (by omega) (by simp [be1_len, be2_len]) | exact c35_2 (by omega) (by simp [be1_len, be2_len])))); rfl
    by_cases a10 : n < 65536
    case neg => rw [show decide (okS k nd at' n s p keep) = false from decide_eq_false (by unfold okS; omega)]; ((repeat first
    | ((with_reducible refine aT ?_ ?_); · first | with_reducible rfl | with_reducible assumption | (simp only [Bool.and_eq_true, Bool.and_eq_false_iff, Bool.or_eq_true, Bool.true_and, Bool.and_true, decide_eq_true_eq, decide_eq_false_iff_not, Bool.not_eq_true', Bool.not_eq_false', beq_iff_eq, beq_eq_false_iff_ne, bne_iff_ne, bne_eq_false_iff_eq, ne_eq, fits_iff, whole_iff, List.length_append, List.length_map, List.length_cons, List.length_nil, List.length_take, List.length_drop, bRow_length, tRow_length, List.nil_append, Nat.zero_add, Nat.add_zero, Int.toNat_natCast, and_self, and_true, true_and, true_or, or_true, false_or, or_false, not_true_eq_false, not_false_eq_true, e0] <;> omega))
    | ((with_reducible refine aF ?_ ?_); · first | with_reducible rfl | with_reducible assumption | (simp only [Bool.and_eq_true, Bool.and_eq_false_iff, Bool.or_eq_true, Bool.true_and, Bool.and_true, decide_eq_true_eq, decide_eq_false_iff_not, Bool.not_eq_true', Bool.not_eq_false', beq_iff_eq, beq_eq_false_iff_ne, bne_iff_ne, bne_eq_false_iff_eq, ne_eq, fits_iff, whole_iff, List.length_append, List.length_map, List.length_cons, List.length_nil, List.length_take, List.length_drop, bRow_length, tRow_length, List.nil_append, Nat.zero_add, Nat.add_zero, Int.toNat_natCast, and_self, and_true, true_and, true_or, or_true, false_or, or_false, not_true_eq_false, not_false_eq_true, e0] <;> omega))
    | ((with_reducible apply gStep); · first | exact rfl | exact c35_0 (by omega) | exact c35_1 (by omega) (by simp [be1_len, be2_len]) | exact c35_2 (by omega) (by simp [be1_len, be2_len])))); rfl
    have wn : IntKind.wrap .u64 n = n := IntWalk.u64_in n (by omega)
    simp only [wn]
    clear wn
    by_cases a11 : 0 ≤ p
    case neg => rw [show decide (okS k nd at' n s p keep) = false from decide_eq_false (by unfold okS; omega)]; ((repeat first
    | ((with_reducible refine aT ?_ ?_); · first | with_reducible rfl | with_reducible assumption | (simp only [Bool.and_eq_true, Bool.and_eq_false_iff, Bool.or_eq_true, Bool.true_and, Bool.and_true, decide_eq_true_eq, decide_eq_false_iff_not, Bool.not_eq_true', Bool.not_eq_false', beq_iff_eq, beq_eq_false_iff_ne, bne_iff_ne, bne_eq_false_iff_eq, ne_eq, fits_iff, whole_iff, List.length_append, List.length_map, List.length_cons, List.length_nil, List.length_take, List.length_drop, bRow_length, tRow_length, List.nil_append, Nat.zero_add, Nat.add_zero, Int.toNat_natCast, and_self, and_true, true_and, true_or, or_true, false_or, or_false, not_true_eq_false, not_false_eq_true, e0] <;> omega))
    | ((with_reducible refine aF ?_ ?_); · first | with_reducible rfl | with_reducible assumption | (simp only [Bool.and_eq_true, Bool.and_eq_false_iff, Bool.or_eq_true, Bool.true_and, Bool.and_true, decide_eq_true_eq, decide_eq_false_iff_not, Bool.not_eq_true', Bool.not_eq_false', beq_iff_eq, beq_eq_false_iff_ne, bne_iff_ne, bne_eq_false_iff_eq, ne_eq, fits_iff, whole_iff, List.length_append, List.length_map, List.length_cons, List.length_nil, List.length_take, List.length_drop, bRow_length, tRow_length, List.nil_append, Nat.zero_add, Nat.add_zero, Int.toNat_natCast, and_self, and_true, true_and, true_or, or_true, false_or, or_false, not_true_eq_false, not_false_eq_true, e0] <;> omega))
    | ((with_reducible apply gStep); · first | exact rfl | exact c35_0 (by omega) | exact c35_1 (by omega) (by simp [be1_len, be2_len]) | exact c35_2 (by omega) (by simp [be1_len, be2_len])))); rfl
    by_cases a12 : p < 65536
    case neg => rw [show decide (okS k nd at' n s p keep) = false from decide_eq_false (by unfold okS; omega)]; ((repeat first
    | ((with_reducible refine aT ?_ ?_); · first | with_reducible rfl | with_reducible assumption | (simp only [Bool.and_eq_true, Bool.and_eq_false_iff, Bool.or_eq_true, Bool.true_and, Bool.and_true, decide_eq_true_eq, decide_eq_false_iff_not, Bool.not_eq_true', Bool.not_eq_false', beq_iff_eq, beq_eq_false_iff_ne, bne_iff_ne, bne_eq_false_iff_eq, ne_eq, fits_iff, whole_iff, List.length_append, List.length_map, List.length_cons, List.length_nil, List.length_take, List.length_drop, bRow_length, tRow_length, List.nil_append, Nat.zero_add, Nat.add_zero, Int.toNat_natCast, and_self, and_true, true_and, true_or, or_true, false_or, or_false, not_true_eq_false, not_false_eq_true, e0] <;> omega))
    | ((with_reducible refine aF ?_ ?_); · first | with_reducible rfl | with_reducible assumption | (simp only [Bool.and_eq_true, Bool.and_eq_false_iff, Bool.or_eq_true, Bool.true_and, Bool.and_true, decide_eq_true_eq, decide_eq_false_iff_not, Bool.not_eq_true', Bool.not_eq_false', beq_iff_eq, beq_eq_false_iff_ne, bne_iff_ne, bne_eq_false_iff_eq, ne_eq, fits_iff, whole_iff, List.length_append, List.length_map, List.length_cons, List.length_nil, List.length_take, List.length_drop, bRow_length, tRow_length, List.nil_append, Nat.zero_add, Nat.add_zero, Int.toNat_natCast, and_self, and_true, true_and, true_or, or_true, false_or, or_false, not_true_eq_false, not_false_eq_true, e0] <;> omega))
    | ((with_reducible apply gStep); · first | exact rfl | exact c35_0 (by omega) | exact c35_1 (by omega) (by simp [be1_len, be2_len]) | exact c35_2 (by omega) (by simp [be1_len, be2_len])))); rfl
    have wp : IntKind.wrap .u64 p = p := IntWalk.u64_in p (by omega)
    have wl : IntKind.wrap .u64 (((tRow keep).length : Nat) : Int) = (keep.length : Int) := by rw [tRow_length]; exact IntWalk.u64_in _ (by omega)
    simp only [wp, wl]
    clear wp wl
    rw [show decide (okS k nd at' n s p keep) = true from decide_eq_true (by unfold okS; omega)]
    ((repeat first
    | ((with_reducible refine aT ?_ ?_); · first | with_reducible rfl | with_reducible assumption | (simp only [Bool.and_eq_true, Bool.and_eq_false_iff, Bool.or_eq_true, Bool.true_and, Bool.and_true, decide_eq_true_eq, decide_eq_false_iff_not, Bool.not_eq_true', Bool.not_eq_false', beq_iff_eq, beq_eq_false_iff_ne, bne_iff_ne, bne_eq_false_iff_eq, ne_eq, fits_iff, whole_iff, List.length_append, List.length_map, List.length_cons, List.length_nil, List.length_take, List.length_drop, bRow_length, tRow_length, List.nil_append, Nat.zero_add, Nat.add_zero, Int.toNat_natCast, and_self, and_true, true_and, true_or, or_true, false_or, or_false, not_true_eq_false, not_false_eq_true, e0, be1_len, be2_len] <;> omega))
    | ((with_reducible refine aF ?_ ?_); · first | with_reducible rfl | with_reducible assumption | (simp only [Bool.and_eq_true, Bool.and_eq_false_iff, Bool.or_eq_true, Bool.true_and, Bool.and_true, decide_eq_true_eq, decide_eq_false_iff_not, Bool.not_eq_true', Bool.not_eq_false', beq_iff_eq, beq_eq_false_iff_ne, bne_iff_ne, bne_eq_false_iff_eq, ne_eq, fits_iff, whole_iff, List.length_append, List.length_map, List.length_cons, List.length_nil, List.length_take, List.length_drop, bRow_length, tRow_length, List.nil_append, Nat.zero_add, Nat.add_zero, Int.toNat_natCast, and_self, and_true, true_and, true_or, or_true, false_or, or_false, not_true_eq_false, not_false_eq_true, e0, be1_len, be2_len] <;> omega))
    | ((with_reducible apply gStep); · first | exact rfl | exact c35_0 (by omega) | exact c35_1 (by omega) (by simp [be1_len, be2_len]) | exact c35_2 (by omega) (by simp [be1_len, be2_len]) | (rw [← bRow_append]; exact c35_1 (by omega) (by simp [be1_len, be2_len]; omega)) | exact loS_eq out19_inj (loop19z (by simp [be1_len, be2_len]; omega) (by omega) hsz))))
    simp only [res19, putB, z, if_true]
    try rw [if_neg (show ¬ s.size = 0 by omega)]

theorem f22z_run {sz sz' : Nat} {k nd at' n : Int} {s : ByteArray} {p : Int} {kk : LK} {a : List Bool} {k' nd' at'' n' : Int} {s' : ByteArray} {p' : Int} {kk' : LK} {b : List Bool} {G : List Ent} (hm : a.length ≤ maxLen) (hz : a ≠ [] → sz = 1) (hz' : b ≠ [] → sz' = 1) :
    (f22z k nd at' n s p kk sz (tRow a) k' nd' at'' n' s' p' kk' sz' (tRow b) G).run = some (.dat (.bool (sameS k nd at' n s p a k' nd' at'' n' s' p' b)), G) := by
  rw [← Tr.ev_run, f22z_eq]
  unfold sameS
  by_cases e1 : k = k'
  case neg => rw [decide_eq_false (fun h => e1 h.1)]; ((repeat first
    | ((with_reducible refine aT ?_ ?_); · first | with_reducible rfl | with_reducible assumption | (simp only [Bool.and_eq_true, Bool.and_eq_false_iff, Bool.or_eq_true, Bool.true_and, Bool.and_true, decide_eq_true_eq, decide_eq_false_iff_not, Bool.not_eq_true', Bool.not_eq_false', beq_iff_eq, beq_eq_false_iff_ne, bne_iff_ne, bne_eq_false_iff_eq, ne_eq, fits_iff, whole_iff, List.length_append, List.length_map, List.length_cons, List.length_nil, List.length_take, List.length_drop, bRow_length, tRow_length, List.nil_append, Nat.zero_add, Nat.add_zero, Int.toNat_natCast, and_self, and_true, true_and, true_or, or_true, false_or, or_false, not_true_eq_false, not_false_eq_true] <;> omega))
    | ((with_reducible refine aF ?_ ?_); · first | with_reducible rfl | with_reducible assumption | (simp only [Bool.and_eq_true, Bool.and_eq_false_iff, Bool.or_eq_true, Bool.true_and, Bool.and_true, decide_eq_true_eq, decide_eq_false_iff_not, Bool.not_eq_true', Bool.not_eq_false', beq_iff_eq, beq_eq_false_iff_ne, bne_iff_ne, bne_eq_false_iff_eq, ne_eq, fits_iff, whole_iff, List.length_append, List.length_map, List.length_cons, List.length_nil, List.length_take, List.length_drop, bRow_length, tRow_length, List.nil_append, Nat.zero_add, Nat.add_zero, Int.toNat_natCast, and_self, and_true, true_and, true_or, or_true, false_or, or_false, not_true_eq_false, not_false_eq_true] <;> omega))
    | ((with_reducible apply gStep); · first | exact rfl))); rfl
  by_cases e2 : nd = nd'
  case neg => rw [decide_eq_false (fun h => e2 h.2.1)]; ((repeat first
    | ((with_reducible refine aT ?_ ?_); · first | with_reducible rfl | with_reducible assumption | (simp only [Bool.and_eq_true, Bool.and_eq_false_iff, Bool.or_eq_true, Bool.true_and, Bool.and_true, decide_eq_true_eq, decide_eq_false_iff_not, Bool.not_eq_true', Bool.not_eq_false', beq_iff_eq, beq_eq_false_iff_ne, bne_iff_ne, bne_eq_false_iff_eq, ne_eq, fits_iff, whole_iff, List.length_append, List.length_map, List.length_cons, List.length_nil, List.length_take, List.length_drop, bRow_length, tRow_length, List.nil_append, Nat.zero_add, Nat.add_zero, Int.toNat_natCast, and_self, and_true, true_and, true_or, or_true, false_or, or_false, not_true_eq_false, not_false_eq_true] <;> omega))
    | ((with_reducible refine aF ?_ ?_); · first | with_reducible rfl | with_reducible assumption | (simp only [Bool.and_eq_true, Bool.and_eq_false_iff, Bool.or_eq_true, Bool.true_and, Bool.and_true, decide_eq_true_eq, decide_eq_false_iff_not, Bool.not_eq_true', Bool.not_eq_false', beq_iff_eq, beq_eq_false_iff_ne, bne_iff_ne, bne_eq_false_iff_eq, ne_eq, fits_iff, whole_iff, List.length_append, List.length_map, List.length_cons, List.length_nil, List.length_take, List.length_drop, bRow_length, tRow_length, List.nil_append, Nat.zero_add, Nat.add_zero, Int.toNat_natCast, and_self, and_true, true_and, true_or, or_true, false_or, or_false, not_true_eq_false, not_false_eq_true] <;> omega))
    | ((with_reducible apply gStep); · first | exact rfl))); rfl
  by_cases e3 : at' = at''
  case neg => rw [decide_eq_false (fun h => e3 h.2.2.1)]; ((repeat first
    | ((with_reducible refine aT ?_ ?_); · first | with_reducible rfl | with_reducible assumption | (simp only [Bool.and_eq_true, Bool.and_eq_false_iff, Bool.or_eq_true, Bool.true_and, Bool.and_true, decide_eq_true_eq, decide_eq_false_iff_not, Bool.not_eq_true', Bool.not_eq_false', beq_iff_eq, beq_eq_false_iff_ne, bne_iff_ne, bne_eq_false_iff_eq, ne_eq, fits_iff, whole_iff, List.length_append, List.length_map, List.length_cons, List.length_nil, List.length_take, List.length_drop, bRow_length, tRow_length, List.nil_append, Nat.zero_add, Nat.add_zero, Int.toNat_natCast, and_self, and_true, true_and, true_or, or_true, false_or, or_false, not_true_eq_false, not_false_eq_true] <;> omega))
    | ((with_reducible refine aF ?_ ?_); · first | with_reducible rfl | with_reducible assumption | (simp only [Bool.and_eq_true, Bool.and_eq_false_iff, Bool.or_eq_true, Bool.true_and, Bool.and_true, decide_eq_true_eq, decide_eq_false_iff_not, Bool.not_eq_true', Bool.not_eq_false', beq_iff_eq, beq_eq_false_iff_ne, bne_iff_ne, bne_eq_false_iff_eq, ne_eq, fits_iff, whole_iff, List.length_append, List.length_map, List.length_cons, List.length_nil, List.length_take, List.length_drop, bRow_length, tRow_length, List.nil_append, Nat.zero_add, Nat.add_zero, Int.toNat_natCast, and_self, and_true, true_and, true_or, or_true, false_or, or_false, not_true_eq_false, not_false_eq_true] <;> omega))
    | ((with_reducible apply gStep); · first | exact rfl))); rfl
  by_cases e4 : n = n'
  case neg => rw [decide_eq_false (fun h => e4 h.2.2.2.1)]; ((repeat first
    | ((with_reducible refine aT ?_ ?_); · first | with_reducible rfl | with_reducible assumption | (simp only [Bool.and_eq_true, Bool.and_eq_false_iff, Bool.or_eq_true, Bool.true_and, Bool.and_true, decide_eq_true_eq, decide_eq_false_iff_not, Bool.not_eq_true', Bool.not_eq_false', beq_iff_eq, beq_eq_false_iff_ne, bne_iff_ne, bne_eq_false_iff_eq, ne_eq, fits_iff, whole_iff, List.length_append, List.length_map, List.length_cons, List.length_nil, List.length_take, List.length_drop, bRow_length, tRow_length, List.nil_append, Nat.zero_add, Nat.add_zero, Int.toNat_natCast, and_self, and_true, true_and, true_or, or_true, false_or, or_false, not_true_eq_false, not_false_eq_true] <;> omega))
    | ((with_reducible refine aF ?_ ?_); · first | with_reducible rfl | with_reducible assumption | (simp only [Bool.and_eq_true, Bool.and_eq_false_iff, Bool.or_eq_true, Bool.true_and, Bool.and_true, decide_eq_true_eq, decide_eq_false_iff_not, Bool.not_eq_true', Bool.not_eq_false', beq_iff_eq, beq_eq_false_iff_ne, bne_iff_ne, bne_eq_false_iff_eq, ne_eq, fits_iff, whole_iff, List.length_append, List.length_map, List.length_cons, List.length_nil, List.length_take, List.length_drop, bRow_length, tRow_length, List.nil_append, Nat.zero_add, Nat.add_zero, Int.toNat_natCast, and_self, and_true, true_and, true_or, or_true, false_or, or_false, not_true_eq_false, not_false_eq_true] <;> omega))
    | ((with_reducible apply gStep); · first | exact rfl))); rfl
  by_cases e5 : s.toList = s'.toList
  case neg => rw [decide_eq_false (fun h => e5 h.2.2.2.2.1)]; ((repeat first
    | ((with_reducible refine aT ?_ ?_); · first | with_reducible rfl | with_reducible assumption | (simp only [Bool.and_eq_true, Bool.and_eq_false_iff, Bool.or_eq_true, Bool.true_and, Bool.and_true, decide_eq_true_eq, decide_eq_false_iff_not, Bool.not_eq_true', Bool.not_eq_false', beq_iff_eq, beq_eq_false_iff_ne, bne_iff_ne, bne_eq_false_iff_eq, ne_eq, fits_iff, whole_iff, List.length_append, List.length_map, List.length_cons, List.length_nil, List.length_take, List.length_drop, bRow_length, tRow_length, List.nil_append, Nat.zero_add, Nat.add_zero, Int.toNat_natCast, and_self, and_true, true_and, true_or, or_true, false_or, or_false, not_true_eq_false, not_false_eq_true, e5] <;> omega))
    | ((with_reducible refine aF ?_ ?_); · first | with_reducible rfl | with_reducible assumption | (simp only [Bool.and_eq_true, Bool.and_eq_false_iff, Bool.or_eq_true, Bool.true_and, Bool.and_true, decide_eq_true_eq, decide_eq_false_iff_not, Bool.not_eq_true', Bool.not_eq_false', beq_iff_eq, beq_eq_false_iff_ne, bne_iff_ne, bne_eq_false_iff_eq, ne_eq, fits_iff, whole_iff, List.length_append, List.length_map, List.length_cons, List.length_nil, List.length_take, List.length_drop, bRow_length, tRow_length, List.nil_append, Nat.zero_add, Nat.add_zero, Int.toNat_natCast, and_self, and_true, true_and, true_or, or_true, false_or, or_false, not_true_eq_false, not_false_eq_true, e5] <;> omega))
    | ((with_reducible apply gStep); · first | exact rfl))); rfl
  by_cases e6 : p = p'
  case neg => rw [decide_eq_false (fun h => e6 h.2.2.2.2.2.1)]; ((repeat first
    | ((with_reducible refine aT ?_ ?_); · first | with_reducible rfl | with_reducible assumption | (simp only [Bool.and_eq_true, Bool.and_eq_false_iff, Bool.or_eq_true, Bool.true_and, Bool.and_true, decide_eq_true_eq, decide_eq_false_iff_not, Bool.not_eq_true', Bool.not_eq_false', beq_iff_eq, beq_eq_false_iff_ne, bne_iff_ne, bne_eq_false_iff_eq, ne_eq, fits_iff, whole_iff, List.length_append, List.length_map, List.length_cons, List.length_nil, List.length_take, List.length_drop, bRow_length, tRow_length, List.nil_append, Nat.zero_add, Nat.add_zero, Int.toNat_natCast, and_self, and_true, true_and, true_or, or_true, false_or, or_false, not_true_eq_false, not_false_eq_true, e5] <;> omega))
    | ((with_reducible refine aF ?_ ?_); · first | with_reducible rfl | with_reducible assumption | (simp only [Bool.and_eq_true, Bool.and_eq_false_iff, Bool.or_eq_true, Bool.true_and, Bool.and_true, decide_eq_true_eq, decide_eq_false_iff_not, Bool.not_eq_true', Bool.not_eq_false', beq_iff_eq, beq_eq_false_iff_ne, bne_iff_ne, bne_eq_false_iff_eq, ne_eq, fits_iff, whole_iff, List.length_append, List.length_map, List.length_cons, List.length_nil, List.length_take, List.length_drop, bRow_length, tRow_length, List.nil_append, Nat.zero_add, Nat.add_zero, Int.toNat_natCast, and_self, and_true, true_and, true_or, or_true, false_or, or_false, not_true_eq_false, not_false_eq_true, e5] <;> omega))
    | ((with_reducible apply gStep); · first | exact rfl))); rfl
  by_cases hl : a.length = b.length
  case neg => rw [decide_eq_false (fun h => hl (by rw [h.2.2.2.2.2.2]))]; ((repeat first
    | ((with_reducible refine aT ?_ ?_); · first | with_reducible rfl | with_reducible assumption | (simp only [Bool.and_eq_true, Bool.and_eq_false_iff, Bool.or_eq_true, Bool.true_and, Bool.and_true, decide_eq_true_eq, decide_eq_false_iff_not, Bool.not_eq_true', Bool.not_eq_false', beq_iff_eq, beq_eq_false_iff_ne, bne_iff_ne, bne_eq_false_iff_eq, ne_eq, fits_iff, whole_iff, List.length_append, List.length_map, List.length_cons, List.length_nil, List.length_take, List.length_drop, bRow_length, tRow_length, List.nil_append, Nat.zero_add, Nat.add_zero, Int.toNat_natCast, and_self, and_true, true_and, true_or, or_true, false_or, or_false, not_true_eq_false, not_false_eq_true, e5] <;> omega))
    | ((with_reducible refine aF ?_ ?_); · first | with_reducible rfl | with_reducible assumption | (simp only [Bool.and_eq_true, Bool.and_eq_false_iff, Bool.or_eq_true, Bool.true_and, Bool.and_true, decide_eq_true_eq, decide_eq_false_iff_not, Bool.not_eq_true', Bool.not_eq_false', beq_iff_eq, beq_eq_false_iff_ne, bne_iff_ne, bne_eq_false_iff_eq, ne_eq, fits_iff, whole_iff, List.length_append, List.length_map, List.length_cons, List.length_nil, List.length_take, List.length_drop, bRow_length, tRow_length, List.nil_append, Nat.zero_add, Nat.add_zero, Int.toNat_natCast, and_self, and_true, true_and, true_or, or_true, false_or, or_false, not_true_eq_false, not_false_eq_true, e5] <;> omega))
    | ((with_reducible apply gStep); · first | exact rfl))); rfl
  ((repeat first
    | ((with_reducible refine aT ?_ ?_); · first | with_reducible rfl | with_reducible assumption | (simp only [Bool.and_eq_true, Bool.and_eq_false_iff, Bool.or_eq_true, Bool.true_and, Bool.and_true, decide_eq_true_eq, decide_eq_false_iff_not, Bool.not_eq_true', Bool.not_eq_false', beq_iff_eq, beq_eq_false_iff_ne, bne_iff_ne, bne_eq_false_iff_eq, ne_eq, fits_iff, whole_iff, List.length_append, List.length_map, List.length_cons, List.length_nil, List.length_take, List.length_drop, bRow_length, tRow_length, List.nil_append, Nat.zero_add, Nat.add_zero, Int.toNat_natCast, and_self, and_true, true_and, true_or, or_true, false_or, or_false, not_true_eq_false, not_false_eq_true, e5] <;> omega))
    | ((with_reducible refine aF ?_ ?_); · first | with_reducible rfl | with_reducible assumption | (simp only [Bool.and_eq_true, Bool.and_eq_false_iff, Bool.or_eq_true, Bool.true_and, Bool.and_true, decide_eq_true_eq, decide_eq_false_iff_not, Bool.not_eq_true', Bool.not_eq_false', beq_iff_eq, beq_eq_false_iff_ne, bne_iff_ne, bne_eq_false_iff_eq, ne_eq, fits_iff, whole_iff, List.length_append, List.length_map, List.length_cons, List.length_nil, List.length_take, List.length_drop, bRow_length, tRow_length, List.nil_append, Nat.zero_add, Nat.add_zero, Int.toNat_natCast, and_self, and_true, true_and, true_or, or_true, false_or, or_false, not_true_eq_false, not_false_eq_true, e5] <;> omega))
    | ((with_reducible apply gStep); · first | exact rfl | exact loS_eq out22_inj (loop22z hl hm hz hz'))))
  by_cases h : a = b
  · rw [decide_eq_true h, decide_eq_true ⟨e1, e2, e3, e4, e5, e6, h⟩]; rfl
  · rw [decide_eq_false h, decide_eq_false (fun q => h q.2.2.2.2.2.2)]; rfl

theorem q19z {k nd at' n : Int} {s : ByteArray} {p : Int} {kk : LK} {sz : Nat} {keep : List Bool} {G : List Ent} (hz : keep ≠ [] → sz = 1) : P19 [stpz k nd at' n s p kk sz (tRow keep)] G = some (res19 G (decide (okS k nd at' n s p keep)) (putB k nd at' n s p keep)) := by
  cases h : decide (okS k nd at' n s p keep) with
  | true => exact pureS_eq rfl (by show (f19z k nd at' n s p kk sz (tRow keep) []).run = _; rw [f19z_run hz, h]; rfl) rfl
  | false => exact pureS_eq rfl (by show (f19z k nd at' n s p kk sz (tRow keep) []).run = _; rw [f19z_run hz, h]; rfl) rfl

theorem p22z {k nd at' n : Int} {s : ByteArray} {p : Int} {kk : LK} {sz : Nat} {a : List Bool} {k' nd' at'' n' : Int} {s' : ByteArray} {p' : Int} {kk' : LK} {sz' : Nat} {b : List Bool} {G : List Ent} (hm : a.length ≤ maxLen) (hz : a ≠ [] → sz = 1) (hz' : b ≠ [] → sz' = 1) :
    P22 [stpz k nd at' n s p kk sz (tRow a), stpz k' nd' at'' n' s' p' kk' sz' (tRow b)] G = some (oB G (sameS k nd at' n s p a k' nd' at'' n' s' p' b)) :=
  pureS_eq rfl (G0 := []) (f22z_run (G := []) hm hz hz') rfl

end Go.Eng
end

/- Steps as plain lists: what is told as bytes is read, and what is read tells the bytes. -/
section
namespace Go.Eng
open Go
set_option maxRecDepth 100000
set_option linter.unusedSimpArgs false

def okT (s : Stp) : Prop := okS s.kind s.node s.at' s.n s.data s.stop s.keep
instance (s : Stp) : Decidable (okT s) := by unfold okT; infer_instance
def putW (s : Stp) : List UInt8 := putB s.kind s.node s.at' s.n s.data s.stop s.keep
def allT (ss : List Stp) : List UInt8 := ss.flatMap putW
def sameT (s t : Stp) : Bool := sameS s.kind s.node s.at' s.n s.data s.stop s.keep t.kind t.node t.at' t.n t.data t.stop t.keep

theorem sameT_self (s : Stp) : sameT s s = true := sameS_self

theorem numS_inv1 {s : RS} {v : Int} {r : List UInt8} (h : numS 1 s = (v, (r, 0))) : s = (be1 v ++ r, 0) ∧ 0 ≤ v ∧ v < 256 := by
  obtain ⟨l, e⟩ := s
  unfold numS at h
  split at h
  · rename_i h1
    simp only [Prod.mk.injEq] at h
    exact absurd h.2.2 h1
  · rename_i h1
    split at h
    · simp only [Prod.mk.injEq] at h
      exact absurd h.2.2 (by decide)
    · rename_i h2
      simp only [Prod.mk.injEq] at h
      obtain ⟨rfl, rfl, _⟩ := h
      have he : e = 0 := by simpa using h1
      subst he
      match l, h2 with
      | [], h2 => simp at h2
      | b :: l, _ =>
        have hb := b.toNat_lt
        simp only [List.take_succ_cons, List.take_zero, List.drop_succ_cons, List.drop_zero, val, List.foldl_cons, List.foldl_nil, be1]
        refine ⟨?_, by omega, by omega⟩
        simp only [Nat.zero_mul, Nat.zero_add, Int.toNat_natCast, UInt8.ofNat_toNat, List.cons_append, List.nil_append]

theorem numS_inv2 {s : RS} {v : Int} {r : List UInt8} (h : numS 2 s = (v, (r, 0))) : s = (be2 v ++ r, 0) ∧ 0 ≤ v ∧ v < 65536 := by
  obtain ⟨l, e⟩ := s
  unfold numS at h
  split at h
  · rename_i h1
    simp only [Prod.mk.injEq] at h
    exact absurd h.2.2 h1
  · rename_i h1
    split at h
    · simp only [Prod.mk.injEq] at h
      exact absurd h.2.2 (by decide)
    · rename_i h2
      simp only [Prod.mk.injEq] at h
      obtain ⟨rfl, rfl, _⟩ := h
      have he : e = 0 := by simpa using h1
      subst he
      match l, h2 with
      | [], h2 => simp at h2
      | [_], h2 => simp at h2
      | a :: b :: l, _ =>
        have ha := a.toNat_lt
        have hb := b.toNat_lt
        simp only [List.take_succ_cons, List.take_zero, List.drop_succ_cons, List.drop_zero, val, List.foldl_cons, List.foldl_nil, be2, Nat.zero_mul, Nat.zero_add]
        refine ⟨?_, by omega, by omega⟩
        have e1 : UInt8.ofNat ((((a.toNat * 256 + b.toNat : Nat) : Int) / 256).toNat) = a := by
          apply UInt8.toNat_inj.1
          simp
          omega
        have e2 : UInt8.ofNat (((a.toNat * 256 + b.toNat : Nat) : Int).toNat) = b := by
          apply UInt8.toNat_inj.1
          simp
          omega
        rw [e1, e2]
        rfl

theorem bytesS_inv {s : RS} {o : Option (List UInt8)} {r : List UInt8} (h : bytesS s = (o, (r, 0))) : ∃ b, o = some b ∧ s = (b ++ r, 0) ∧ b.length = 64 := by
  obtain ⟨l, e⟩ := s
  unfold bytesS at h
  split at h
  · rename_i h1
    simp only [Prod.mk.injEq] at h
    exact absurd h.2.2 h1
  · rename_i h1
    split at h
    · simp only [Prod.mk.injEq] at h
      exact absurd h.2.2 (by decide)
    · rename_i h2
      simp only [Prod.mk.injEq] at h
      obtain ⟨rfl, rfl, _⟩ := h
      have he : e = 0 := by simpa using h1
      subst he
      exact ⟨_, rfl, by simp, by simp only [List.length_take]; simp only at h2; omega⟩

theorem keepS_inv : ∀ (m : Nat) (s : RS) (ks : List Bool) (l9 : List UInt8), keepS m s false = (ks, (l9, 0), false) → s = (flags ks ++ l9, 0) ∧ ks.length = m
  | 0, s, ks, l9, h => by
    simp only [keepS, Prod.mk.injEq] at h
    obtain ⟨rfl, rfl, _⟩ := h
    exact ⟨rfl, rfl⟩
  | m + 1, s, ks, l9, h => by
    by_cases he : s.2 = 0
    · rw [keepS_go he] at h
      generalize hq : numS 1 s = q at h
      obtain ⟨v, t⟩ := q
      by_cases hb : v > 1
      · rw [decide_eq_true hb, keepS_stop (by simp)] at h
        simp only [Prod.mk.injEq] at h
        exact absurd h.2.2 (by decide)
      · rw [decide_eq_false hb] at h
        generalize hr : keepS m t false = r at h
        obtain ⟨ks', t', w'⟩ := r
        simp only [Prod.mk.injEq] at h
        obtain ⟨rfl, rfl, rfl⟩ := h
        obtain ⟨rfl, hl⟩ := keepS_inv m _ _ _ hr
        obtain ⟨rfl, h0, h1⟩ := numS_inv1 hq
        refine ⟨?_, by simp [hl]⟩
        have hv : v = 0 ∨ v = 1 := by omega
        rcases hv with rfl | rfl <;> rfl
    · rw [keepS_stop (by simp [he])] at h
      simp only [Prod.mk.injEq] at h
      obtain ⟨_, rfl, _⟩ := h
      exact absurd rfl he

/-- what is read tells the bytes -/
theorem getS_inv {l : List UInt8} (h : (getS l).2.2 = 0) : okT (getS l).1 ∧ ∃ l9, l = putW (getS l).1 ++ l9 ∧ (getS l).2.1 = ((putW (getS l).1).length : Int) := by
  obtain ⟨r, hr⟩ : ∃ r, r = readS l := ⟨_, rfl⟩
  have hg := getS_of hr.symm
  obtain ⟨q, hq⟩ : ∃ q, q = keepR r := ⟨_, rfl⟩
  rw [← hq] at hg
  obtain ⟨ks, ⟨l9, e9⟩, wr⟩ := q
  cases wr with
  | true =>
    rw [hg] at h
    simp [getT] at h
  | false =>
    by_cases he : e9 = 0
    case neg =>
      rw [hg, getT_err he] at h
      exact absurd h (by decide)
    subst he
    rw [getT_ok] at hg
    rw [hg]
    clear h hg
    unfold keepR at hq
    have hf : ¬ r.f.1 > 1 := by
      intro hf
      rw [decide_eq_true hf, keepS_stop (by simp)] at hq
      simp only [Prod.mk.injEq] at hq
      exact absurd hq.2.2 (by decide)
    rw [decide_eq_false hf] at hq
    obtain ⟨hm, hkl⟩ := keepS_inv _ _ _ _ hq.symm
    obtain ⟨k, nd, at', n, p, f, b, m⟩ := r
    simp only at hf hm hkl hq ⊢
    simp only [readS, Rs.mk.injEq] at hr
    obtain ⟨r1, r2, r3, r4, r5, r6, r7, r8⟩ := hr
    rw [← r1] at r2
    rw [← r1, ← r2] at r3
    rw [← r1, ← r2, ← r3] at r4
    rw [← r1, ← r2, ← r3, ← r4] at r5
    rw [← r1, ← r2, ← r3, ← r4, ← r5] at r6
    rw [← r1, ← r2, ← r3, ← r4, ← r5, ← r6] at r7
    rw [← r1, ← r2, ← r3, ← r4, ← r5, ← r6, ← r7] at r8
    obtain ⟨mv, mr⟩ := m
    simp only at hm hkl
    subst hm
    obtain ⟨hb, hm0, hm1⟩ := numS_inv1 r8.symm
    obtain ⟨bo, br⟩ := b
    simp only at hb ⊢
    subst hb
    obtain ⟨fv, fr⟩ := f
    obtain ⟨pv, pr⟩ := p
    obtain ⟨nv, nr⟩ := n
    obtain ⟨av, ar⟩ := at'
    obtain ⟨dv, dr⟩ := nd
    obtain ⟨kv, kr⟩ := k
    simp only at *
    have hmk : mv = (ks.length : Int) := by omega
    have hfin : ∃ bl : List UInt8, (bl.length = 0 ∧ fv = 0 ∨ bl.length = 64 ∧ fv = 1) ∧ bo.getD [] = bl ∧ fr = (bl ++ (be1 mv ++ (flags ks ++ l9)), 0) ∧ 0 ≤ fv ∧ fv < 256 ∧ pr = (be1 fv ++ (bl ++ (be1 mv ++ (flags ks ++ l9))), 0) := by
      by_cases h1 : fv = 1
      · rw [if_pos h1] at r7
        obtain ⟨bb, rfl, hb, hl⟩ := bytesS_inv r7.symm
        subst hb
        obtain ⟨hp, h0, h2⟩ := numS_inv1 r6.symm
        exact ⟨bb, .inr ⟨hl, h1⟩, rfl, rfl, h0, h2, hp⟩
      · rw [if_neg h1] at r7
        simp only [Prod.mk.injEq] at r7
        obtain ⟨rfl, rfl⟩ := r7
        obtain ⟨hp, h0, h2⟩ := numS_inv1 r6.symm
        exact ⟨[], .inl ⟨rfl, by omega⟩, rfl, rfl, h0, h2, hp⟩
    obtain ⟨bl, hbl, hbo, _, _, _, hp⟩ := hfin
    rw [hbo]
    clear r6 r7 r8 hq
    subst hp
    obtain ⟨rfl, hp0, hp1⟩ := numS_inv2 r5.symm
    obtain ⟨rfl, hn0, hn1⟩ := numS_inv2 r4.symm
    obtain ⟨rfl, ha0, ha1⟩ := numS_inv2 r3.symm
    obtain ⟨rfl, hd0, hd1⟩ := numS_inv1 r2.symm
    obtain ⟨hl, hk0, hk1⟩ := numS_inv1 r1.symm
    simp only [Prod.mk.injEq, and_true] at hl
    have hsz : (⟨bl.toArray⟩ : ByteArray).size = bl.length := ba_size bl
    refine ⟨⟨?_, ?_, ⟨hk0, hk1⟩, ⟨hd0, hd1⟩, ⟨ha0, ha1⟩, ⟨hn0, hn1⟩, ⟨hp0, hp1⟩⟩, l9, ?_, ?_⟩
    · show (⟨bl.toArray⟩ : ByteArray).size = 0 ∨ (⟨bl.toArray⟩ : ByteArray).size = 64
      omega
    · show ks.length ≤ 255
      omega
    · have hz : (if (⟨bl.toArray⟩ : ByteArray).size = 0 then (0 : Int) else 1) = fv := by
        split <;> omega
      rw [hl]
      simp only [putW, putB, hz, ← hmk, List.append_assoc]
    · have hz : (if (⟨bl.toArray⟩ : ByteArray).size = 0 then (0 : Int) else 1) = fv := by
        split <;> omega
      rw [hl]
      simp only [putW, putB, hz, ← hmk, List.length_append]
      omega

/-- what is told is read, whatever stands behind it -/
theorem getS_putW {s : Stp} (h : okT s) (r : List UInt8) : getS (putW s ++ r) = (s, ((putW s).length : Int), 0) := by
  obtain ⟨k, nd, at', n, s, p, keep⟩ := s
  obtain ⟨h1, h2, h3, h4, h5, h6, h7⟩ := h
  simp only at h1 h2 h3 h4 h5 h6 h7
  have hl : (0 : Int) ≤ (keep.length : Int) ∧ (keep.length : Int) < 256 := by omega
  by_cases z : s.size = 0
  · have hs : s.data.toList = [] := List.length_eq_zero_iff.1 (by rw [toList_len, z])
    have hs2 : (⟨#[]⟩ : ByteArray) = s := by rw [← ba_data s, hs]
    obtain ⟨x1, x2, x3, x4, x5, x6, hr⟩ : ∃ x1 x2 x3 x4 x5 x6, readS (putB k nd at' n s p keep ++ r) = ⟨(k, x1), (nd, x2), (at', x3), (n, x4), (p, x5), (0, x6), (none, (be1 keep.length ++ (flags keep ++ r), 0)), ((keep.length : Int), (flags keep ++ r, 0))⟩ := by
      refine ⟨(be1 nd ++ (be2 at' ++ (be2 n ++ (be2 p ++ (be1 0 ++ ((be1 keep.length ++ (flags keep ++ r))))))), 0), (be2 at' ++ (be2 n ++ (be2 p ++ (be1 0 ++ ((be1 keep.length ++ (flags keep ++ r)))))), 0), (be2 n ++ (be2 p ++ (be1 0 ++ ((be1 keep.length ++ (flags keep ++ r))))), 0), (be2 p ++ (be1 0 ++ ((be1 keep.length ++ (flags keep ++ r)))), 0), (be1 0 ++ ((be1 keep.length ++ (flags keep ++ r))), 0), ((be1 keep.length ++ (flags keep ++ r)), 0), ?_⟩
      simp only [readS, putB, List.append_assoc, numS_be1 h3, numS_be1 h4, numS_be2 h5, numS_be2 h6, numS_be2 h7, z, if_true, hs, List.nil_append, numS_be1 (show (0 : Int) ≤ 0 ∧ (0 : Int) < 256 by omega), numS_be1 hl, show ¬ (0 : Int) = 1 by omega, if_false]
    show getS (putB k nd at' n s p keep ++ r) = _
    rw [getS_of hr]
    have hk : keepR ⟨(k, x1), (nd, x2), (at', x3), (n, x4), (p, x5), (0, x6), (none, (be1 keep.length ++ (flags keep ++ r), 0)), ((keep.length : Int), (flags keep ++ r, 0))⟩ = (keep, (r, 0), false) := by
      unfold keepR
      simp only [Int.toNat_natCast]
      exact keepS_flags keep r
    rw [hk, getT_ok]
    simp [hs2, putW]
  · have h64 : s.size = 64 := by omega
    have hb : bytesS (s.data.toList ++ (be1 keep.length ++ (flags keep ++ r)), 0) = (some s.data.toList, (be1 keep.length ++ (flags keep ++ r), 0)) := by
      have hlen : s.data.toList.length = 64 := by rw [toList_len, h64]
      unfold bytesS
      rw [if_neg (by simp), if_neg (by simp only [List.length_append]; omega)]
      simp only [← hlen, List.take_left, List.drop_left]
    obtain ⟨x1, x2, x3, x4, x5, x6, hr⟩ : ∃ x1 x2 x3 x4 x5 x6, readS (putB k nd at' n s p keep ++ r) = ⟨(k, x1), (nd, x2), (at', x3), (n, x4), (p, x5), (1, x6), (some s.data.toList, (be1 keep.length ++ (flags keep ++ r), 0)), ((keep.length : Int), (flags keep ++ r, 0))⟩ := by
      refine ⟨(be1 nd ++ (be2 at' ++ (be2 n ++ (be2 p ++ (be1 1 ++ (s.data.toList ++ (be1 keep.length ++ (flags keep ++ r))))))), 0), (be2 at' ++ (be2 n ++ (be2 p ++ (be1 1 ++ (s.data.toList ++ (be1 keep.length ++ (flags keep ++ r)))))), 0), (be2 n ++ (be2 p ++ (be1 1 ++ (s.data.toList ++ (be1 keep.length ++ (flags keep ++ r))))), 0), (be2 p ++ (be1 1 ++ (s.data.toList ++ (be1 keep.length ++ (flags keep ++ r)))), 0), (be1 1 ++ (s.data.toList ++ (be1 keep.length ++ (flags keep ++ r))), 0), (s.data.toList ++ (be1 keep.length ++ (flags keep ++ r)), 0), ?_⟩
      simp only [readS, putB, List.append_assoc, numS_be1 h3, numS_be1 h4, numS_be2 h5, numS_be2 h6, numS_be2 h7, z, if_true, if_false, numS_be1 (show (0 : Int) ≤ 1 ∧ (1 : Int) < 256 by omega), hb, numS_be1 hl]
    show getS (putB k nd at' n s p keep ++ r) = _
    rw [getS_of hr]
    have hk : keepR ⟨(k, x1), (nd, x2), (at', x3), (n, x4), (p, x5), (1, x6), (some s.data.toList, (be1 keep.length ++ (flags keep ++ r), 0)), ((keep.length : Int), (flags keep ++ r, 0))⟩ = (keep, (r, 0), false) := by
      unfold keepR
      simp only [Int.toNat_natCast]
      exact keepS_flags keep r
    rw [hk, getT_ok]
    simp [putW]

theorem putW_len {s : Stp} (h : okT s) : (putW s).length ≤ 400 := putB_len h
theorem putW_pos (s : Stp) : 0 < (putW s).length := by
  simp only [putW, putB, List.length_append, be1_len, be2_len]
  omega

/-! ### all of them -/

/-- the steps that bytes are, or why they are none -/
def readF : Nat → List UInt8 → List Stp → List Stp × Int
  | 0, _, acc => (acc, 0)
  | f + 1, l, acc => if l = [] then (acc, 0) else if 300 ≤ acc.length then ([], 8) else if (getS l).2.2 ≠ 0 then ([], (getS l).2.2) else readF f (l.drop (getS l).2.1.toNat) (acc ++ [(getS l).1])
def readL (l : List UInt8) : List Stp × Int := readF l.length l []

theorem readF_nil {f : Nat} {acc : List Stp} : readF f [] acc = (acc, 0) := by cases f <;> simp [readF]

theorem getS_pos {l : List UInt8} (h : (getS l).2.2 = 0) : 0 < (getS l).2.1.toNat ∧ (getS l).2.1.toNat ≤ l.length ∧ (getS l).2.1 = ((getS l).2.1.toNat : Int) := by
  obtain ⟨_, l9, hl, hn⟩ := getS_inv h
  have hp := putW_pos (getS l).1
  have hlen : l.length = (putW (getS l).1).length + l9.length := by
    conv => lhs; rw [hl]
    simp
  omega

theorem allT_cons (s : Stp) (ss : List Stp) : allT (s :: ss) = putW s ++ allT ss := rfl

theorem readF_all : ∀ (f : Nat) (l : List UInt8) (acc : List Stp), l.length ≤ f → acc.length ≤ 300 → (readF f l acc).2 = 0 → ∃ ts, (readF f l acc).1 = acc ++ ts ∧ (∀ s ∈ ts, okT s) ∧ allT ts = l ∧ (acc ++ ts).length ≤ 300
  | 0, l, acc, hl, ha, _ => by
    have : l = [] := List.length_eq_zero_iff.1 (by omega)
    subst this
    exact ⟨[], by simp [readF], by simp, rfl, by simpa using ha⟩
  | f + 1, l, acc, hl, ha, h => by
    by_cases h0 : l = []
    · subst h0
      exact ⟨[], by simp [readF], by simp, rfl, by simpa using ha⟩
    · simp only [readF, if_neg h0] at h ⊢
      by_cases h1 : 300 ≤ acc.length
      · rw [if_pos h1] at h
        exact absurd h (by decide)
      · rw [if_neg h1] at h ⊢
        by_cases h2 : (getS l).2.2 ≠ 0
        · rw [if_pos h2] at h
          exact absurd h h2
        · rw [if_neg h2] at h ⊢
          have h2 : (getS l).2.2 = 0 := by simpa using h2
          obtain ⟨hok, l9, hl9, hn⟩ := getS_inv h2
          have hp := getS_pos h2
          obtain ⟨ts, e1, e2, e3, e4⟩ := readF_all f _ _ (by rw [List.length_drop]; omega) (by simp; omega) h
          refine ⟨(getS l).1 :: ts, by rw [e1]; simp, ?_, ?_, by simpa using e4⟩
          · intro s hs
            rcases List.mem_cons.1 hs with rfl | hs
            · exact hok
            · exact e2 s hs
          · rw [allT_cons, e3, hn, Int.toNat_natCast]
            conv => rhs; rw [hl9]
            congr 1
            have : l.drop (putW (getS l).1).length = l9 := by
              generalize (getS l).1 = s at hl9
              rw [hl9, List.drop_left]
            exact this

theorem readF_put : ∀ (ts : List Stp) (f : Nat) (acc : List Stp), (allT ts).length ≤ f → acc.length + ts.length ≤ 300 → (∀ s ∈ ts, okT s) → readF f (allT ts) acc = (acc ++ ts, 0)
  | [], f, acc, _, _, _ => by rw [show allT [] = [] from rfl, readF_nil]; simp
  | s :: ts, f, acc, hf, ha, hok => by
    rw [allT_cons] at hf ⊢
    have hp := putW_pos s
    rw [List.length_append] at hf
    match f, hf with
    | 0, hf => exact absurd hf (by omega)
    | f + 1, hf =>
      have hg := getS_putW (hok s (by simp)) (allT ts)
      have hne : putW s ++ allT ts ≠ [] := fun h => by
        have := congrArg List.length h
        rw [List.length_append, List.length_nil] at this
        omega
      simp only [readF, if_neg hne, hg]
      rw [if_neg (show ¬ 300 ≤ acc.length by simp at ha; omega), if_neg (by simp)]
      rw [Int.toNat_natCast, List.drop_left, readF_put ts f (acc ++ [s]) (by omega) (by simp at ha ⊢; omega) (fun t ht => hok t (by simp [ht]))]
      simp

end Go.Eng
end

/- Lists of steps as data; All, Steps and the document's Read: as trees. -/
section
namespace Go.Eng
open Go
set_option maxRecDepth 100000
set_option linter.unusedSimpArgs false

theorem rk28a_eq (k : LK) (xs : Row) (G : List Ent) (i : Int) : (rk28a k xs G i).ev =
  (rAsk (decide (i < (((List.length xs) : Nat) : Int)))
   (rAsk ((decide ((0 : Int) ≤ i)) && ((decide (i ≤ (((List.length xs) : Nat) : Int))) && (decide ((((List.length xs) : Nat) : Int) ≤ (((List.length xs) : Nat) : Int)))))
    (rAsk ((decide (k = LK.nil)) || true)
     (rGet (fnS (fun (p : Int × Int × Int × Int × ByteArray × Int × D × Int × Int) => ((AV.tup [(AV.agg [(AV.dat (D.int IntKind.i64 p.1)), (AV.dat (D.int IntKind.i64 p.2.1)), (AV.dat (D.int IntKind.i64 p.2.2.1)), (AV.dat (D.int IntKind.i64 p.2.2.2.1)), (AV.dat (D.str p.2.2.2.2.1)), (AV.dat (D.int IntKind.i64 p.2.2.2.2.2.1)), (AV.dat p.2.2.2.2.2.2.1)]), (AV.dat (D.int IntKind.i64 p.2.2.2.2.2.2.2.1)), (AV.dat (D.int IntKind.i64 p.2.2.2.2.2.2.2.2))]), G)) (P26 [(AV.dat (D.list (if ((k = LK.full) ∧ ((((List.length xs) : Nat) : Int) < (((List.length xs) : Nat) : Int))) then LK.any else k) 1 (List.take ((Int.toNat (((List.length xs) : Nat) : Int)) - (Int.toNat i)) (List.drop (Int.toNat i) xs))))] G)) fun x1 =>
      (rAsk (x1.2.2.2.2.2.2.2.2 != (0 : Int))
       (some (Ex.ret, (St.mk (mkT 0 35 [(2, (AV.dat (D.list LK.nil 0 ([] : Row)))), (3, (AV.dat (D.int IntKind.i64 x1.2.2.2.2.2.2.2.2))), (4, (AV.dat (D.list LK.nil 0 ([] : Row))))]) (Mem.mk [] G 0))))
       (some (Ex.norm, (St.mk (mkT 0 35 [(0, (AV.dat (D.list k 1 xs))), (4, (AV.sh false 0 7 0 1)), (5, (AV.dat (D.int IntKind.i64 (IntKind.wrap IntKind.i64 (i + x1.2.2.2.2.2.2.2.1)))))]) (Mem.mk [(Option.some (Ent.row Mode.excl 7 [[(D.int IntKind.i64 x1.1), (D.int IntKind.i64 x1.2.1), (D.int IntKind.i64 x1.2.2.1), (D.int IntKind.i64 x1.2.2.2.1), (D.str x1.2.2.2.2.1), (D.int IntKind.i64 x1.2.2.2.2.2.1), x1.2.2.2.2.2.2.1]]))] G 0))))
      )
     )
     none
    )
    none
   )
   (some ((Ex.exit 0), (St.mk (mkT 0 35 [(4, (AV.dat (D.list LK.nil 0 ([] : Row))))]) (Mem.mk [] G 0))))
  )
  := by kernel_rfl

theorem rk28b_eq (k : LK) (xs : Row) (ys : Row) (G : List Ent) (i : Int) : (rk28b k xs ys G i).ev =
  (rAsk (decide (i < (((List.length xs) : Nat) : Int)))
   (rAsk (decide ((((List.length ys) : Nat) : Int) ≥ (300 : Int)))
    (some (Ex.ret, (St.mk (mkT 0 35 [(2, (AV.dat (D.list LK.nil 0 ([] : Row)))), (3, (AV.dat (D.int IntKind.i64 (8 : Int)))), (4, (AV.sh false 0 7 0 (List.length ys)))]) (Mem.mk [(Option.some (Ent.row Mode.excl 7 ys))] G 0))))
    (rAsk ((decide ((0 : Int) ≤ i)) && ((decide (i ≤ (((List.length xs) : Nat) : Int))) && (decide ((((List.length xs) : Nat) : Int) ≤ (((List.length xs) : Nat) : Int)))))
     (rAsk ((decide (k = LK.nil)) || true)
      (rGet (fnS (fun (p : Int × Int × Int × Int × ByteArray × Int × D × Int × Int) => ((AV.tup [(AV.agg [(AV.dat (D.int IntKind.i64 p.1)), (AV.dat (D.int IntKind.i64 p.2.1)), (AV.dat (D.int IntKind.i64 p.2.2.1)), (AV.dat (D.int IntKind.i64 p.2.2.2.1)), (AV.dat (D.str p.2.2.2.2.1)), (AV.dat (D.int IntKind.i64 p.2.2.2.2.2.1)), (AV.dat p.2.2.2.2.2.2.1)]), (AV.dat (D.int IntKind.i64 p.2.2.2.2.2.2.2.1)), (AV.dat (D.int IntKind.i64 p.2.2.2.2.2.2.2.2))]), G)) (P26 [(AV.dat (D.list (if ((k = LK.full) ∧ ((((List.length xs) : Nat) : Int) < (((List.length xs) : Nat) : Int))) then LK.any else k) 1 (List.take ((Int.toNat (((List.length xs) : Nat) : Int)) - (Int.toNat i)) (List.drop (Int.toNat i) xs))))] G)) fun x1 =>
       (rAsk (x1.2.2.2.2.2.2.2.2 != (0 : Int))
        (some (Ex.ret, (St.mk (mkT 0 35 [(2, (AV.dat (D.list LK.nil 0 ([] : Row)))), (3, (AV.dat (D.int IntKind.i64 x1.2.2.2.2.2.2.2.2))), (4, (AV.sh false 0 7 0 (List.length ys)))]) (Mem.mk [(Option.some (Ent.row Mode.excl 7 ys))] G 0))))
        (rAsk ((decide ((0 + (List.length ys)) ≤ (List.length ys))) && (fits (TI.mk (TK.struct [(0, 3), (1, 3), (2, 3), (3, 3), (4, 9), (5, 3), (6, 42)]) 7 80 [(AV.dat (D.int IntKind.i64 (0 : Int))), (AV.dat (D.int IntKind.i64 (0 : Int))), (AV.dat (D.int IntKind.i64 (0 : Int))), (AV.dat (D.int IntKind.i64 (0 : Int))), (AV.dat (D.str (ByteArray.mk (List.toArray [])))), (AV.dat (D.int IntKind.i64 (0 : Int))), (AV.dat (D.list LK.nil 0 ([] : Row)))] false) ((List.length ys) + 1)))
         (rAsk (true && (decide ((List.length ys) = (List.length ys))))
          (some (Ex.norm, (St.mk (mkT 0 35 [(0, (AV.dat (D.list k 1 xs))), (4, (AV.sh false 0 7 0 ((List.length ys) + 1))), (5, (AV.dat (D.int IntKind.i64 (IntKind.wrap IntKind.i64 (i + x1.2.2.2.2.2.2.2.1)))))]) (Mem.mk [(Option.some (Ent.row Mode.excl 7 (ys ++ [[(D.int IntKind.i64 x1.1), (D.int IntKind.i64 x1.2.1), (D.int IntKind.i64 x1.2.2.1), (D.int IntKind.i64 x1.2.2.2.1), (D.str x1.2.2.2.2.1), (D.int IntKind.i64 x1.2.2.2.2.2.1), x1.2.2.2.2.2.2.1]])))] G 0))))
          none
         )
         none
        )
       )
      )
      none
     )
     none
    )
   )
   (some ((Ex.exit 0), (St.mk (mkT 0 35 [(4, (AV.sh false 0 7 0 (List.length ys)))]) (Mem.mk [(Option.some (Ent.row Mode.excl 7 ys))] G 0))))
  )
  := by kernel_rfl

theorem rk29_eq (sz : Nat) (k : LK) (xs : Row) (sz' : Nat) (k' : LK) (ys : Row) (G : List Ent) (i : Int) : (rk29 sz k xs sz' k' ys G i).ev =
  (rAsk (decide (i < (((List.length xs) : Nat) : Int)))
   (rAsk ((decide (sz = 7)) && ((decide ((0 : Int) ≤ i)) && (decide (i < (((List.length xs) : Nat) : Int)))))
    (rGet xs[(Int.toNat i)]? fun x1 =>
     (rGet (List.head? (List.drop 0 x1)) fun x2 =>
      (rGet (List.head? (List.tail (List.drop 0 x1))) fun x3 =>
       (rGet (List.head? (List.tail (List.tail (List.drop 0 x1)))) fun x4 =>
        (rGet (List.head? (List.tail (List.tail (List.tail (List.drop 0 x1))))) fun x5 =>
         (rGet (List.head? (List.tail (List.tail (List.tail (List.tail (List.drop 0 x1)))))) fun x6 =>
          (rGet (List.head? (List.tail (List.tail (List.tail (List.tail (List.tail (List.drop 0 x1))))))) fun x7 =>
           (rGet (List.head? (List.tail (List.tail (List.tail (List.tail (List.tail (List.tail (List.drop 0 x1)))))))) fun x8 =>
            (rAsk ((decide (sz' = 7)) && ((decide ((0 : Int) ≤ i)) && (decide (i < (((List.length ys) : Nat) : Int)))))
             (rGet ys[(Int.toNat i)]? fun x9 =>
              (rGet (List.head? (List.drop 0 x9)) fun x10 =>
               (rGet (List.head? (List.tail (List.drop 0 x9))) fun x11 =>
                (rGet (List.head? (List.tail (List.tail (List.drop 0 x9)))) fun x12 =>
                 (rGet (List.head? (List.tail (List.tail (List.tail (List.drop 0 x9))))) fun x13 =>
                  (rGet (List.head? (List.tail (List.tail (List.tail (List.tail (List.drop 0 x9)))))) fun x14 =>
                   (rGet (List.head? (List.tail (List.tail (List.tail (List.tail (List.tail (List.drop 0 x9))))))) fun x15 =>
                    (rGet (List.head? (List.tail (List.tail (List.tail (List.tail (List.tail (List.tail (List.drop 0 x9)))))))) fun x16 =>
                     (rGet (fnS (fun (b : Bool) => ((AV.dat (D.bool b)), G)) (P22 [(AV.agg [(AV.dat x2), (AV.dat x3), (AV.dat x4), (AV.dat x5), (AV.dat x6), (AV.dat x7), (AV.dat x8)]), (AV.agg [(AV.dat x10), (AV.dat x11), (AV.dat x12), (AV.dat x13), (AV.dat x14), (AV.dat x15), (AV.dat x16)])] G)) fun x17 =>
                      (rAsk (!x17)
                       (some (Ex.ret, (St.mk (mkT 0 27 [(4, (AV.dat (D.bool false)))]) (Mem.mk [] G 0))))
                       (some (Ex.norm, (St.mk (mkT 0 27 [(0, (AV.dat (D.list k sz xs))), (1, (AV.dat (D.list k' sz' ys))), (5, (AV.dat (D.int IntKind.i64 (IntKind.wrap IntKind.i64 (i + (1 : Int))))))]) (Mem.mk [] G 0))))
                      )
                     )
                    )
                   )
                  )
                 )
                )
               )
              )
             )
             none
            )
           )
          )
         )
        )
       )
      )
     )
    )
    none
   )
   (some ((Ex.exit 0), (St.mk (mkT 0 27 []) (Mem.mk [] G 0))))
  )
  := by kernel_rfl

theorem rk30a_eq (sz : Nat) (k : LK) (xs : Row) (G : List Ent) (i : Int) : (rk30a sz k xs G i).ev =
  (rAsk (decide (i < (((List.length xs) : Nat) : Int)))
   (rAsk ((decide (sz = 7)) && ((decide ((0 : Int) ≤ i)) && (decide (i < (((List.length xs) : Nat) : Int)))))
    (rGet xs[(Int.toNat i)]? fun x1 =>
     (rGet (List.head? (List.drop 0 x1)) fun x2 =>
      (rGet (List.head? (List.tail (List.drop 0 x1))) fun x3 =>
       (rGet (List.head? (List.tail (List.tail (List.drop 0 x1)))) fun x4 =>
        (rGet (List.head? (List.tail (List.tail (List.tail (List.drop 0 x1))))) fun x5 =>
         (rGet (List.head? (List.tail (List.tail (List.tail (List.tail (List.drop 0 x1)))))) fun x6 =>
          (rGet (List.head? (List.tail (List.tail (List.tail (List.tail (List.tail (List.drop 0 x1))))))) fun x7 =>
           (rGet (List.head? (List.tail (List.tail (List.tail (List.tail (List.tail (List.tail (List.drop 0 x1)))))))) fun x8 =>
            (rAsk (Option.isSome (fnS (fun (xs : Row) => ((AV.tup [(AV.dat (D.list LK.any 1 xs)), (AV.dat (D.int IntKind.i64 (0 : Int)))]), G)) (P19 [(AV.agg [(AV.dat x2), (AV.dat x3), (AV.dat x4), (AV.dat x5), (AV.dat x6), (AV.dat x7), (AV.dat x8)])] G)))
             (rGet (fnS (fun (xs : Row) => ((AV.tup [(AV.dat (D.list LK.any 1 xs)), (AV.dat (D.int IntKind.i64 (0 : Int)))]), G)) (P19 [(AV.agg [(AV.dat x2), (AV.dat x3), (AV.dat x4), (AV.dat x5), (AV.dat x6), (AV.dat x7), (AV.dat x8)])] G)) fun x9 =>
              (rAsk (true && (fits (TI.mk (TK.int IntKind.u8) 1 1 [(AV.dat (D.int IntKind.u8 (0 : Int)))] true) (List.length x9)))
               (rAsk (List.isEmpty x9)
                (some (Ex.norm, (St.mk (mkT 0 31 [(4, (AV.dat (D.list LK.nil 0 ([] : Row)))), (12, (AV.dat (D.list k sz xs))), (13, (AV.dat (D.int IntKind.i64 (((List.length xs) : Nat) : Int)))), (14, (AV.dat (D.int IntKind.i64 (IntKind.wrap IntKind.i64 (i + (1 : Int))))))]) (Mem.mk [] G 0))))
                (some (Ex.norm, (St.mk (mkT 0 31 [(4, (AV.sh false 0 1 0 (List.length x9))), (12, (AV.dat (D.list k sz xs))), (13, (AV.dat (D.int IntKind.i64 (((List.length xs) : Nat) : Int)))), (14, (AV.dat (D.int IntKind.i64 (IntKind.wrap IntKind.i64 (i + (1 : Int))))))]) (Mem.mk [(Option.some (Ent.row Mode.excl 1 x9))] G 0))))
               )
               none
              )
             )
             (rGet (fnS (fun (x : Unit) => ((AV.tup [(AV.dat (D.list LK.nil 0 ([] : Row))), (AV.dat (D.int IntKind.i64 (6 : Int)))]), G)) (P19 [(AV.agg [(AV.dat x2), (AV.dat x3), (AV.dat x4), (AV.dat x5), (AV.dat x6), (AV.dat x7), (AV.dat x8)])] G)) fun x10 =>
              (some (Ex.ret, (St.mk (mkT 0 31 [(2, (AV.dat (D.list LK.nil 0 ([] : Row)))), (3, (AV.dat (D.int IntKind.i64 (6 : Int)))), (4, (AV.dat (D.list LK.nil 0 ([] : Row))))]) (Mem.mk [] G 0))))
             )
            )
           )
          )
         )
        )
       )
      )
     )
    )
    none
   )
   (some ((Ex.exit 0), (St.mk (mkT 0 31 [(4, (AV.dat (D.list LK.nil 0 ([] : Row))))]) (Mem.mk [] G 0))))
  )
  := by kernel_rfl

theorem rk30b_eq (sz : Nat) (k : LK) (xs : Row) (bs : Row) (G : List Ent) (i : Int) : (rk30b sz k xs bs G i).ev =
  (rAsk (decide (i < (((List.length xs) : Nat) : Int)))
   (rAsk ((decide (sz = 7)) && ((decide ((0 : Int) ≤ i)) && (decide (i < (((List.length xs) : Nat) : Int)))))
    (rGet xs[(Int.toNat i)]? fun x1 =>
     (rGet (List.head? (List.drop 0 x1)) fun x2 =>
      (rGet (List.head? (List.tail (List.drop 0 x1))) fun x3 =>
       (rGet (List.head? (List.tail (List.tail (List.drop 0 x1)))) fun x4 =>
        (rGet (List.head? (List.tail (List.tail (List.tail (List.drop 0 x1))))) fun x5 =>
         (rGet (List.head? (List.tail (List.tail (List.tail (List.tail (List.drop 0 x1)))))) fun x6 =>
          (rGet (List.head? (List.tail (List.tail (List.tail (List.tail (List.tail (List.drop 0 x1))))))) fun x7 =>
           (rGet (List.head? (List.tail (List.tail (List.tail (List.tail (List.tail (List.tail (List.drop 0 x1)))))))) fun x8 =>
            (rAsk (Option.isSome (fnS (fun (xs : Row) => ((AV.tup [(AV.dat (D.list LK.any 1 xs)), (AV.dat (D.int IntKind.i64 (0 : Int)))]), G)) (P19 [(AV.agg [(AV.dat x2), (AV.dat x3), (AV.dat x4), (AV.dat x5), (AV.dat x6), (AV.dat x7), (AV.dat x8)])] G)))
             (rGet (fnS (fun (xs : Row) => ((AV.tup [(AV.dat (D.list LK.any 1 xs)), (AV.dat (D.int IntKind.i64 (0 : Int)))]), G)) (P19 [(AV.agg [(AV.dat x2), (AV.dat x3), (AV.dat x4), (AV.dat x5), (AV.dat x6), (AV.dat x7), (AV.dat x8)])] G)) fun x9 =>
              (rAsk ((decide ((0 + (List.length bs)) ≤ (List.length bs))) && (fits (TI.mk (TK.int IntKind.u8) 1 1 [(AV.dat (D.int IntKind.u8 (0 : Int)))] true) ((List.length bs) + (List.length x9))))
               (rAsk (true && (decide ((List.length bs) = (List.length bs))))
                (some (Ex.norm, (St.mk (mkT 0 31 [(4, (AV.sh false 0 1 0 ((List.length bs) + (List.length x9)))), (12, (AV.dat (D.list k sz xs))), (13, (AV.dat (D.int IntKind.i64 (((List.length xs) : Nat) : Int)))), (14, (AV.dat (D.int IntKind.i64 (IntKind.wrap IntKind.i64 (i + (1 : Int))))))]) (Mem.mk [(Option.some (Ent.row Mode.excl 1 (bs ++ x9)))] G 0))))
                none
               )
               none
              )
             )
             (rGet (fnS (fun (x : Unit) => ((AV.tup [(AV.dat (D.list LK.nil 0 ([] : Row))), (AV.dat (D.int IntKind.i64 (6 : Int)))]), G)) (P19 [(AV.agg [(AV.dat x2), (AV.dat x3), (AV.dat x4), (AV.dat x5), (AV.dat x6), (AV.dat x7), (AV.dat x8)])] G)) fun x10 =>
              (some (Ex.ret, (St.mk (mkT 0 31 [(2, (AV.dat (D.list LK.nil 0 ([] : Row)))), (3, (AV.dat (D.int IntKind.i64 (6 : Int)))), (4, (AV.sh false 0 1 0 (List.length bs)))]) (Mem.mk [(Option.some (Ent.row Mode.excl 1 bs))] G 0))))
             )
            )
           )
          )
         )
        )
       )
      )
     )
    )
    none
   )
   (some ((Ex.exit 0), (St.mk (mkT 0 31 [(4, (AV.sh false 0 1 0 (List.length bs)))]) (Mem.mk [(Option.some (Ent.row Mode.excl 1 bs))] G 0))))
  )
  := by kernel_rfl

theorem rk31_eq (k : LK) (xs : Row) (s : ByteArray) (G : List Ent) (i : Int) : (rk31 k xs s G i).ev =
  (rAsk (decide (i < (((List.length xs) : Nat) : Int)))
   (rAsk (true && ((decide ((0 : Int) ≤ i)) && (decide (i < (((List.length xs) : Nat) : Int)))))
    (rGet xs[(Int.toNat i)]? fun x1 =>
     (rGet (List.head? (List.drop 0 x1)) fun x2 =>
      (rGet (List.head? (List.tail (List.drop 0 x1))) fun x3 =>
       (rGet (List.head? (List.tail (List.tail (List.drop 0 x1)))) fun x4 =>
        (rGet (List.head? (List.tail (List.tail (List.tail (List.drop 0 x1))))) fun x5 =>
         (rGet (List.head? (List.tail (List.tail (List.tail (List.tail (List.drop 0 x1)))))) fun x6 =>
          (rGet (List.head? (List.tail (List.tail (List.tail (List.tail (List.tail (List.drop 0 x1))))))) fun x7 =>
           (rGet (List.head? (List.tail (List.tail (List.tail (List.tail (List.tail (List.tail (List.drop 0 x1)))))))) fun x8 =>
            (rAsk (Option.isSome (fnS (fun (s : ByteArray) => ((AV.tup [(AV.dat (D.str s)), (AV.dat (D.int IntKind.i64 (0 : Int)))]), G)) (P20 [(AV.agg [(AV.dat x2), (AV.dat x3), (AV.dat x4), (AV.dat x5), (AV.dat x6), (AV.dat x7), (AV.dat x8)])] G)))
             (rGet (fnS (fun (s : ByteArray) => ((AV.tup [(AV.dat (D.str s)), (AV.dat (D.int IntKind.i64 (0 : Int)))]), G)) (P20 [(AV.agg [(AV.dat x2), (AV.dat x3), (AV.dat x4), (AV.dat x5), (AV.dat x6), (AV.dat x7), (AV.dat x8)])] G)) fun x9 =>
              (rAsk (decide (((((ByteArray.size s) + (ByteArray.size x9)) : Nat) : Int) ≤ (9223372036854775807 : Int)))
               (some (Ex.norm, (St.mk (mkT 0 32 [(0, (AV.dat (D.list k 7 xs))), (4, (AV.dat (D.str (s ++ x9)))), (5, (AV.dat (D.int IntKind.i64 (IntKind.wrap IntKind.i64 (i + (1 : Int))))))]) (Mem.mk [] G 0))))
               none
              )
             )
             (rGet (fnS (fun (x : Unit) => ((AV.tup [(AV.dat (D.str (ByteArray.mk (List.toArray [])))), (AV.dat (D.int IntKind.i64 (6 : Int)))]), G)) (P20 [(AV.agg [(AV.dat x2), (AV.dat x3), (AV.dat x4), (AV.dat x5), (AV.dat x6), (AV.dat x7), (AV.dat x8)])] G)) fun x10 =>
              (some (Ex.ret, (St.mk (mkT 0 32 [(2, (AV.dat (D.str (ByteArray.mk (List.toArray []))))), (3, (AV.dat (D.int IntKind.i64 (6 : Int)))), (4, (AV.dat (D.str s)))]) (Mem.mk [] G 0))))
             )
            )
           )
          )
         )
        )
       )
      )
     )
    )
    none
   )
   (some ((Ex.exit 0), (St.mk (mkT 0 32 [(4, (AV.dat (D.str s)))]) (Mem.mk [] G 0))))
  )
  := by kernel_rfl

theorem f28t_eq (k : LK) (xs : Row) (G : List Ent) : (f28t k xs G).ev =
  (rAsk (Option.isSome (loS TT (TOrc.runs t28) (HSg 28) lp28 (out28a G) (St.mk (mkT 0 35 [(0, (AV.dat (D.list k 1 xs))), (4, (AV.dat (D.list LK.nil 0 ([] : Row)))), (5, (AV.dat (D.int IntKind.i64 (0 : Int))))]) (Mem.mk [] G 0))))
   (rGet (loS TT (TOrc.runs t28) (HSg 28) lp28 (out28a G) (St.mk (mkT 0 35 [(0, (AV.dat (D.list k 1 xs))), (4, (AV.dat (D.list LK.nil 0 ([] : Row)))), (5, (AV.dat (D.int IntKind.i64 (0 : Int))))]) (Mem.mk [] G 0))) fun x1 =>
    (some ((AV.tup [(AV.dat (D.list LK.nil 0 ([] : Row))), (AV.dat (D.int IntKind.i64 (0 : Int)))]), G))
   )
   (rAsk (Option.isSome (loS TT (TOrc.runs t28) (HSg 28) lp28 (out28b G) (St.mk (mkT 0 35 [(0, (AV.dat (D.list k 1 xs))), (4, (AV.dat (D.list LK.nil 0 ([] : Row)))), (5, (AV.dat (D.int IntKind.i64 (0 : Int))))]) (Mem.mk [] G 0))))
    (rGet (loS TT (TOrc.runs t28) (HSg 28) lp28 (out28b G) (St.mk (mkT 0 35 [(0, (AV.dat (D.list k 1 xs))), (4, (AV.dat (D.list LK.nil 0 ([] : Row)))), (5, (AV.dat (D.int IntKind.i64 (0 : Int))))]) (Mem.mk [] G 0))) fun x2 =>
     (some ((AV.tup [(AV.dat (D.list LK.any 7 (List.take (List.length x2) (List.drop 0 x2)))), (AV.dat (D.int IntKind.i64 (0 : Int)))]), G))
    )
    (rGet (loS TT (TOrc.runs t28) (HSg 28) lp28 (out28c G) (St.mk (mkT 0 35 [(0, (AV.dat (D.list k 1 xs))), (4, (AV.dat (D.list LK.nil 0 ([] : Row)))), (5, (AV.dat (D.int IntKind.i64 (0 : Int))))]) (Mem.mk [] G 0))) fun x3 =>
     (some ((AV.tup [(AV.dat (D.list LK.nil 0 ([] : Row))), (AV.dat (D.int IntKind.i64 x3.1))]), G))
    )
   )
  )
  := by kernel_rfl

theorem f29t_eq (sz : Nat) (k : LK) (xs : Row) (sz' : Nat) (k' : LK) (ys : Row) (G : List Ent) : (f29t sz k xs sz' k' ys G).ev =
  (rAsk ((((List.length xs) : Nat) : Int) != (((List.length ys) : Nat) : Int))
   (some ((AV.dat (D.bool false)), G))
   (rGet (loS TT (TOrc.runs t29) (HSg 29) lp29 (out29 G) (St.mk (mkT 0 27 [(0, (AV.dat (D.list k sz xs))), (1, (AV.dat (D.list k' sz' ys))), (5, (AV.dat (D.int IntKind.i64 (0 : Int))))]) (Mem.mk [] G 0))) fun x1 =>
    (rAsk x1
     (some ((AV.dat (D.bool true)), G))
     (some ((AV.dat (D.bool false)), G))
    )
   )
  )
  := by kernel_rfl

theorem f30t_eq (sz : Nat) (k : LK) (xs : Row) (G : List Ent) : (f30t sz k xs G).ev =
  (rAsk (decide ((((List.length xs) : Nat) : Int) > (300 : Int)))
   (some ((AV.tup [(AV.dat (D.list LK.nil 0 ([] : Row))), (AV.dat (D.int IntKind.i64 (8 : Int)))]), G))
   (rAsk (Option.isSome (loS TT (TOrc.runs t30) (HSg 30) lp30 (out30a G) (St.mk (mkT 0 31 [(4, (AV.dat (D.list LK.nil 0 ([] : Row)))), (12, (AV.dat (D.list k sz xs))), (13, (AV.dat (D.int IntKind.i64 (((List.length xs) : Nat) : Int)))), (14, (AV.dat (D.int IntKind.i64 (0 : Int))))]) (Mem.mk [] G 0))))
    (rGet (loS TT (TOrc.runs t30) (HSg 30) lp30 (out30a G) (St.mk (mkT 0 31 [(4, (AV.dat (D.list LK.nil 0 ([] : Row)))), (12, (AV.dat (D.list k sz xs))), (13, (AV.dat (D.int IntKind.i64 (((List.length xs) : Nat) : Int)))), (14, (AV.dat (D.int IntKind.i64 (0 : Int))))]) (Mem.mk [] G 0))) fun x1 =>
     (some ((AV.tup [(AV.dat (D.list LK.nil 0 ([] : Row))), (AV.dat (D.int IntKind.i64 (0 : Int)))]), G))
    )
    (rAsk (Option.isSome (loS TT (TOrc.runs t30) (HSg 30) lp30 (out30b G) (St.mk (mkT 0 31 [(4, (AV.dat (D.list LK.nil 0 ([] : Row)))), (12, (AV.dat (D.list k sz xs))), (13, (AV.dat (D.int IntKind.i64 (((List.length xs) : Nat) : Int)))), (14, (AV.dat (D.int IntKind.i64 (0 : Int))))]) (Mem.mk [] G 0))))
     (rGet (loS TT (TOrc.runs t30) (HSg 30) lp30 (out30b G) (St.mk (mkT 0 31 [(4, (AV.dat (D.list LK.nil 0 ([] : Row)))), (12, (AV.dat (D.list k sz xs))), (13, (AV.dat (D.int IntKind.i64 (((List.length xs) : Nat) : Int)))), (14, (AV.dat (D.int IntKind.i64 (0 : Int))))]) (Mem.mk [] G 0))) fun x2 =>
      (some ((AV.tup [(AV.dat (D.list LK.any 1 (List.take (List.length x2) (List.drop 0 x2)))), (AV.dat (D.int IntKind.i64 (0 : Int)))]), G))
     )
     (rGet (loS TT (TOrc.runs t30) (HSg 30) lp30 (out30c G) (St.mk (mkT 0 31 [(4, (AV.dat (D.list LK.nil 0 ([] : Row)))), (12, (AV.dat (D.list k sz xs))), (13, (AV.dat (D.int IntKind.i64 (((List.length xs) : Nat) : Int)))), (14, (AV.dat (D.int IntKind.i64 (0 : Int))))]) (Mem.mk [] G 0))) fun x3 =>
      (some ((AV.tup [(AV.dat (D.list LK.nil 0 ([] : Row))), (AV.dat (D.int IntKind.i64 (6 : Int)))]), G))
     )
    )
   )
  )
  := by kernel_rfl

theorem f31t_eq (k : LK) (xs : Row) (G : List Ent) : (f31t k xs G).ev =
  (rAsk (decide ((((List.length xs) : Nat) : Int) > (300 : Int)))
   (some ((AV.tup [(AV.dat (D.str (ByteArray.mk (List.toArray [])))), (AV.dat (D.int IntKind.i64 (8 : Int)))]), G))
   (rAsk (Option.isSome (loS TT (TOrc.runs t31) (HSg 31) lp31 (out31y G) (St.mk (mkT 0 32 [(0, (AV.dat (D.list k 7 xs))), (4, (AV.dat (D.str (ByteArray.mk (List.toArray []))))), (5, (AV.dat (D.int IntKind.i64 (0 : Int))))]) (Mem.mk [] G 0))))
    (rGet (loS TT (TOrc.runs t31) (HSg 31) lp31 (out31y G) (St.mk (mkT 0 32 [(0, (AV.dat (D.list k 7 xs))), (4, (AV.dat (D.str (ByteArray.mk (List.toArray []))))), (5, (AV.dat (D.int IntKind.i64 (0 : Int))))]) (Mem.mk [] G 0))) fun x1 =>
     (some ((AV.tup [(AV.dat (D.str x1)), (AV.dat (D.int IntKind.i64 (0 : Int)))]), G))
    )
    (rGet (loS TT (TOrc.runs t31) (HSg 31) lp31 (out31n G) (St.mk (mkT 0 32 [(0, (AV.dat (D.list k 7 xs))), (4, (AV.dat (D.str (ByteArray.mk (List.toArray []))))), (5, (AV.dat (D.int IntKind.i64 (0 : Int))))]) (Mem.mk [] G 0))) fun x2 =>
     (some ((AV.tup [(AV.dat (D.str (ByteArray.mk (List.toArray [])))), (AV.dat (D.int IntKind.i64 (6 : Int)))]), G))
    )
   )
  )
  := by kernel_rfl

end Go.Eng
end

/- Lists of steps as data; All, Steps and the document's Read: what they come to. -/
section
namespace Go.Eng
open Go
set_option maxRecDepth 100000
set_option linter.unusedSimpArgs false

/-! ### steps as data -/
def stpD (s : Stp) (d : D) : List D := [.int .i64 s.kind, .int .i64 s.node, .int .i64 s.at', .int .i64 s.n, .str s.data, .int .i64 s.stop, d]
def KD (l : List Bool) (d : D) : Prop := ∃ kk sz, d = .list kk sz (tRow l) ∧ (l ≠ [] → sz = 1)
/-- a list of steps, as a row -/
def SR (ss : List Stp) (xs : Row) : Prop := xs.length = ss.length ∧ ∀ i, (h : i < ss.length) → ∃ d, KD ss[i].keep d ∧ xs[i]? = some (stpD ss[i] d)
/-- so, and no list is nil -/
def SR1 (ss : List Stp) (xs : Row) : Prop := xs.length = ss.length ∧ ∀ i, (h : i < ss.length) → ∃ kk, xs[i]? = some (stpD ss[i] (.list kk 1 (tRow ss[i].keep)))

theorem KeepD.kd {l : List Bool} {d : D} (h : KeepD l d) : KD l d := by
  rcases h with ⟨rfl, rfl⟩ | ⟨rfl, h⟩
  · exact ⟨.nil, 0, rfl, fun h => absurd rfl h⟩
  · exact ⟨.any, 1, rfl, fun _ => rfl⟩

theorem SR1.sr {ss : List Stp} {xs : Row} (h : SR1 ss xs) : SR ss xs := by
  refine ⟨h.1, fun i hi => ?_⟩
  obtain ⟨kk, hk⟩ := h.2 i hi
  exact ⟨_, ⟨kk, 1, rfl, fun _ => rfl⟩, hk⟩

theorem SR.nil : SR [] [] := ⟨rfl, fun i h => absurd h (by simp)⟩

theorem SR.snoc {ss : List Stp} {xs : Row} {s : Stp} {d : D} (h : SR ss xs) (hd : KD s.keep d) : SR (ss ++ [s]) (xs ++ [stpD s d]) := by
  refine ⟨by simp [h.1], fun i hi => ?_⟩
  rcases Nat.lt_or_ge i ss.length with h1 | h1
  · obtain ⟨d', h2, h3⟩ := h.2 i h1
    have e : (ss ++ [s])[i] = ss[i] := List.getElem_append_left h1
    rw [e, List.getElem?_append_left (by rw [h.1]; exact h1)]
    exact ⟨d', h2, h3⟩
  · have : i = ss.length := by simp at hi; omega
    subst this
    have e : (ss ++ [s])[ss.length] = s := by simp
    rw [e, List.getElem?_append_right (by rw [h.1]; omega)]
    exact ⟨d, hd, by simp [h.1]⟩

theorem SR.get {ss : List Stp} {xs : Row} {pre ts : List Stp} {s : Stp} (h : SR ss xs) (e : ss = pre ++ s :: ts) : ∃ kk sz, (s.keep ≠ [] → sz = 1) ∧ xs[pre.length]? = some (stpD s (.list kk sz (tRow s.keep))) := by
  subst e
  obtain ⟨d, ⟨kk, sz, rfl, hz⟩, h2⟩ := h.2 pre.length (by simp)
  have e : (pre ++ s :: ts)[pre.length]'(by simp) = s := by simp
  rw [e] at hz h2
  exact ⟨kk, sz, hz, h2⟩

theorem SR1.get {ss : List Stp} {xs : Row} {pre ts : List Stp} {s : Stp} (h : SR1 ss xs) (e : ss = pre ++ s :: ts) : ∃ kk, xs[pre.length]? = some (stpD s (.list kk 1 (tRow s.keep))) := by
  subst e
  obtain ⟨kk, h2⟩ := h.2 pre.length (by simp)
  have e : (pre ++ s :: ts)[pre.length]'(by simp) = s := by simp
  rw [e] at h2
  exact ⟨kk, h2⟩

theorem allT_append (a b : List Stp) : allT (a ++ b) = allT a ++ allT b := by simp [allT]
theorem allT_one (s : Stp) : allT [s] = putW s := by simp [allT]

theorem wI1 {α : Type} {pre : List α} {s : α} (h : pre.length ≤ 1000) : IntKind.wrap .i64 ((pre.length : Int) + 1) = (((pre ++ [s]).length : Nat) : Int) := by
  rw [IntKind.wrap_i64, List.length_append, List.length_singleton]; omega

attribute [local irreducible] fnS loS P19 P20 P22 P26

/-! ### All -/

theorem y19 {s : Stp} {kk : LK} {sz : Nat} {G : List Ent} (hz : s.keep ≠ [] → sz = 1) (h : okT s) : P19 [.agg [.dat (.int .i64 s.kind), .dat (.int .i64 s.node), .dat (.int .i64 s.at'), .dat (.int .i64 s.n), .dat (.str s.data), .dat (.int .i64 s.stop), .dat (.list kk sz (tRow s.keep))]] G = some (o19y G (bRow (putW s))) := by
  have := q19z (k := s.kind) (nd := s.node) (at' := s.at') (n := s.n) (s := s.data) (p := s.stop) (kk := kk) (sz := sz) (keep := s.keep) (G := G) hz
  rw [decide_eq_true (show okS s.kind s.node s.at' s.n s.data s.stop s.keep from h)] at this
  exact this
theorem n19 {s : Stp} {kk : LK} {sz : Nat} {G : List Ent} (hz : s.keep ≠ [] → sz = 1) (h : ¬ okT s) : P19 [.agg [.dat (.int .i64 s.kind), .dat (.int .i64 s.node), .dat (.int .i64 s.at'), .dat (.int .i64 s.n), .dat (.str s.data), .dat (.int .i64 s.stop), .dat (.list kk sz (tRow s.keep))]] G = some (o19n G ()) := by
  have := q19z (k := s.kind) (nd := s.node) (at' := s.at') (n := s.n) (s := s.data) (p := s.stop) (kk := kk) (sz := sz) (keep := s.keep) (G := G) hz
  rw [decide_eq_false (show ¬ okS s.kind s.node s.at' s.n s.data s.stop s.keep from h)] at this
  exact this
theorem y20 {s : Stp} {kk : LK} {G : List Ent} (h : okT s) : P20 [.agg [.dat (.int .i64 s.kind), .dat (.int .i64 s.node), .dat (.int .i64 s.at'), .dat (.int .i64 s.n), .dat (.str s.data), .dat (.int .i64 s.stop), .dat (.list kk 1 (tRow s.keep))]] G = some (o20y G ⟨(putW s).toArray⟩) := by
  have := q20 (k := s.kind) (nd := s.node) (at' := s.at') (n := s.n) (s := s.data) (p := s.stop) (kk := kk) (keep := s.keep) (G := G)
  rw [decide_eq_true (show okS s.kind s.node s.at' s.n s.data s.stop s.keep from h)] at this
  exact this
theorem n20 {s : Stp} {kk : LK} {G : List Ent} (h : ¬ okT s) : P20 [.agg [.dat (.int .i64 s.kind), .dat (.int .i64 s.node), .dat (.int .i64 s.at'), .dat (.int .i64 s.n), .dat (.str s.data), .dat (.int .i64 s.stop), .dat (.list kk 1 (tRow s.keep))]] G = some (o20n G ()) := by
  have := q20 (k := s.kind) (nd := s.node) (at' := s.at') (n := s.n) (s := s.data) (p := s.stop) (kk := kk) (keep := s.keep) (G := G)
  rw [decide_eq_false (show ¬ okS s.kind s.node s.at' s.n s.data s.stop s.keep from h)] at this
  exact this

theorem no19 {G : List Ent} : ∀ x, o19y G x ≠ o19n G () := fun x h => by simp [o19y, o19n] at h
theorem no20 {G : List Ent} : ∀ x, o20y G x ≠ o20n G () := fun x h => by simp [o20y, o20n] at h

theorem loop30b {sz : Nat} {k : LK} {xs : Row} {G : List Ent} : ∀ (ts pre : List Stp), SR (pre ++ ts) xs → (pre ++ ts ≠ [] → sz = 7) → (pre ++ ts).length ≤ 300 → (allT pre).length ≤ 400 * pre.length →
    ((∀ s ∈ ts, okT s) → LoopTo TT t30.runs (HSg 30) lp30 (inv30b sz k xs (bRow (allT pre)) G pre.length) (out30b G (bRow (allT (pre ++ ts))))) ∧
    ((¬ ∀ s ∈ ts, okT s) → ∃ p, LoopTo TT t30.runs (HSg 30) lp30 (inv30b sz k xs (bRow (allT pre)) G pre.length) (out30c G p))
  | [], pre, hsr, hz, hn, hb => by
    refine ⟨fun _ => LoopTo.last (orc := t30) (lo := noLo) (fun _ _ _ _ h => h) (LoOk2.no _) ?_ (by simp [out30b]), fun h => absurd (by simp) h⟩
    show (rk30b sz k xs (bRow (allT pre)) G pre.length).run = _
    rw [← Tr.ev_run, rk30b_eq]
    have hl := hsr.1
    refine aF (by rw [hl]; simp) ?_
    rw [List.append_nil]
  | s :: ts, pre, hsr, hz, hn, hb => by
    have hl := hsr.1
    obtain ⟨kk, z, hkz, hx⟩ := hsr.get rfl
    obtain rfl : sz = 7 := hz (by simp)
    have hlt : pre.length < xs.length := by rw [hl]; simp
    have hpn : pre.length ≤ 1000 := by simp at hn; omega
    by_cases ok : okT s
    · have step : (rk30b 7 k xs (bRow (allT pre)) G pre.length).run = some (.norm, inv30b 7 k xs (bRow (allT (pre ++ [s]))) G ((pre ++ [s]).length : Nat)) := by
        rw [← Tr.ev_run, rk30b_eq]
        have f := y19 (G := G) (kk := kk) hkz ok
        refine aT (by simpa using hlt) (aT (by simpa using hlt) (gStep (by rw [Int.toNat_natCast]; exact hx) (gStep rfl (gStep rfl (gStep rfl (gStep rfl (gStep rfl (gStep rfl (gStep rfl ?_)))))))))
        refine aT (fnS_yes (o1 := o19y G) o19y_inj f) (gStep (fnS_eq (out := o19y G) o19y_inj f) ?_)
        have hp := putW_len ok
        refine aT ?_ (aT (by simp) ?_)
        · rw [Nat.zero_add, Bool.and_eq_true, fits_iff]
          simp only [bRow_length]
          refine ⟨by simp, ?_⟩
          simp at hn
          omega
        · rw [wI1 (s := s) hpn, ← bRow_append, bRow_length, bRow_length, allT_append, allT_one]
          unfold inv30b
          rw [bRow_length, List.length_append, List.length_append]
      have ih := loop30b (sz := 7) (k := k) (G := G) ts (pre ++ [s]) (by simpa using hsr) (fun _ => rfl) (by simpa using hn) (by rw [allT_append, allT_one, List.length_append, List.length_append, List.length_singleton]; have := putW_len ok; omega)
      have e : pre ++ [s] ++ ts = pre ++ s :: ts := by simp
      rw [e] at ih
      refine ⟨fun h => LoopTo.more (orc := t30) (lo := noLo) (fun _ _ _ _ h => h) (LoOk2.no _) step (ih.1 fun t ht => h t (by simp [ht])), fun h => ?_⟩
      obtain ⟨p, hp⟩ := ih.2 (fun q => h (by
        intro t ht
        rcases List.mem_cons.1 ht with rfl | ht
        · exact ok
        · exact q t ht))
      exact ⟨p, LoopTo.more (orc := t30) (lo := noLo) (fun _ _ _ _ h => h) (LoOk2.no _) step hp⟩
    · refine ⟨fun h => absurd (h s (by simp)) ok, fun _ => ⟨(.sh false 0 1 0 (bRow (allT pre)).length, [some (.row .excl 1 (bRow (allT pre)))]), LoopTo.last (orc := t30) (lo := noLo) (fun _ _ _ _ h => h) (LoOk2.no _) ?_ (by simp [out30c])⟩⟩
      show (rk30b 7 k xs (bRow (allT pre)) G pre.length).run = _
      rw [← Tr.ev_run, rk30b_eq]
      have f := n19 (G := G) (kk := kk) hkz ok
      refine aT (by simpa using hlt) (aT (by simpa using hlt) (gStep (by rw [Int.toNat_natCast]; exact hx) (gStep rfl (gStep rfl (gStep rfl (gStep rfl (gStep rfl (gStep rfl (gStep rfl ?_)))))))))
      refine aF (fnS_no f no19) (gStep (fnS_eq (out := o19n G) o19n_inj f) rfl)

theorem loop30z {sz : Nat} {k : LK} {G : List Ent} : LoopTo TT t30.runs (HSg 30) lp30 (inv30a sz k [] G 0) (out30a G ()) := by
  refine LoopTo.last (orc := t30) (lo := noLo) (fun _ _ _ _ h => h) (LoOk2.no _) ?_ (by simp [out30a])
  show (rk30a sz k [] G 0).run = _
  rw [← Tr.ev_run, rk30a_eq]
  exact aF (by simp) rfl

theorem loop30a {sz : Nat} {k : LK} {xs : Row} {G : List Ent} {s : Stp} {ts : List Stp} (hsr : SR (s :: ts) xs) (hz : sz = 7) (hn : (s :: ts).length ≤ 300) :
    ((∀ t ∈ s :: ts, okT t) → LoopTo TT t30.runs (HSg 30) lp30 (inv30a sz k xs G 0) (out30b G (bRow (allT (s :: ts))))) ∧
    ((¬ ∀ t ∈ s :: ts, okT t) → ∃ p, LoopTo TT t30.runs (HSg 30) lp30 (inv30a sz k xs G 0) (out30c G p)) := by
  subst hz
  have hl := hsr.1
  obtain ⟨kk, z, hkz, hx⟩ := hsr.get (pre := []) rfl
  have hlt : 0 < xs.length := by rw [hl]; simp
  by_cases ok : okT s
  · have step : (rk30a 7 k xs G 0).run = some (.norm, inv30b 7 k xs (bRow (allT [s])) G (([s] : List Stp).length : Nat)) := by
      rw [← Tr.ev_run, rk30a_eq]
      have f := y19 (G := G) (kk := kk) hkz ok
      refine aT (by simpa using hlt) (aT (by simpa using hlt) (gStep hx (gStep rfl (gStep rfl (gStep rfl (gStep rfl (gStep rfl (gStep rfl (gStep rfl ?_)))))))))
      refine aT (fnS_yes (o1 := o19y G) o19y_inj f) (gStep (fnS_eq (out := o19y G) o19y_inj f) ?_)
      have hp := putW_len ok
      have hp0 := putW_pos s
      refine aT ?_ (aF ?_ ?_)
      · rw [Bool.true_and, fits_iff, bRow_length]
        omega
      · have : bRow (putW s) ≠ [] := fun h => by
          have := congrArg List.length h
          rw [bRow_length] at this
          simp at this
          rw [this] at hp0
          simp at hp0
        simpa using this
      · rw [allT_one]
        rfl
    have ih := loop30b (sz := 7) (k := k) (G := G) ts [s] hsr (fun _ => rfl) hn (by rw [allT_one]; have := putW_len ok; simpa using this)
    refine ⟨fun h => LoopTo.more (orc := t30) (lo := noLo) (fun _ _ _ _ h => h) (LoOk2.no _) step (ih.1 fun t ht => h t (by simp [ht])), fun h => ?_⟩
    obtain ⟨p, hp⟩ := ih.2 (fun q => h (by
      intro t ht
      rcases List.mem_cons.1 ht with rfl | ht
      · exact ok
      · exact q t ht))
    exact ⟨p, LoopTo.more (orc := t30) (lo := noLo) (fun _ _ _ _ h => h) (LoOk2.no _) step hp⟩
  · refine ⟨fun h => absurd (h s (by simp)) ok, fun _ => ⟨(.dat (.list .nil 0 []), []), LoopTo.last (orc := t30) (lo := noLo) (fun _ _ _ _ h => h) (LoOk2.no _) ?_ (by simp [out30c])⟩⟩
    show (rk30a 7 k xs G 0).run = _
    rw [← Tr.ev_run, rk30a_eq]
    have f := n19 (G := G) (kk := kk) hkz ok
    refine aT (by simpa using hlt) (aT (by simpa using hlt) (gStep hx (gStep rfl (gStep rfl (gStep rfl (gStep rfl (gStep rfl (gStep rfl (gStep rfl ?_)))))))))
    refine aF (fnS_no f no19) (gStep (fnS_eq (out := o19n G) o19n_inj f) rfl)

end Go.Eng
end

/- All, Steps and the document's Read: what the functions come to. -/
section
namespace Go.Eng
open Go
set_option maxRecDepth 100000
set_option linter.unusedSimpArgs false

theorem p26 {k : LK} {l : List UInt8} {G : List Ent} (hl : l.length ≤ 140737488355328) :
    ∃ d, KeepD (getS l).1.keep d ∧ P26 [.dat (.list k 1 (bRow l))] G = some (o23 G ((getS l).1.kind, (getS l).1.node, (getS l).1.at', (getS l).1.n, (getS l).1.data, (getS l).1.stop, d, (getS l).2.1, (getS l).2.2)) := by
  obtain ⟨d, G', hd, h⟩ := R26_run (k := k) hl
  exact ⟨d, hd, pureS_eq rfl h rfl⟩

attribute [local irreducible] fnS loS P19 P20 P22 P26

theorem out30a_inj {G : List Ent} : ∀ x y, out30a G x = out30a G y → x = y := fun _ _ _ => rfl
theorem out30b_inj {G : List Ent} : ∀ x y, out30b G x = out30b G y → x = y := by
  intro x y h
  simp [out30b, mkT] at h
  exact h.2
theorem out30c_inj {G : List Ent} : ∀ x y, out30c G x = out30c G y → x = y := by
  rintro ⟨a, b⟩ ⟨c, d⟩ h
  simp [out30c, mkT] at h
  obtain ⟨rfl, rfl⟩ := h
  rfl
theorem out31y_inj {G : List Ent} : ∀ x y, out31y G x = out31y G y → x = y := by
  intro x y h
  simp [out31y, mkT] at h
  exact h
theorem out31n_inj {G : List Ent} : ∀ x y, out31n G x = out31n G y → x = y := by
  intro x y h
  simp [out31n, mkT] at h
  exact h
theorem out28a_inj {G : List Ent} : ∀ x y, out28a G x = out28a G y → x = y := fun _ _ _ => rfl
theorem out28b_inj {G : List Ent} : ∀ x y, out28b G x = out28b G y → x = y := by
  intro x y h
  simp [out28b, mkT] at h
  exact h.2
theorem out28c_inj {G : List Ent} : ∀ x y, out28c G x = out28c G y → x = y := by
  rintro ⟨a, b, c⟩ ⟨d, e, f⟩ h
  simp [out28c, mkT] at h
  obtain ⟨⟨rfl, rfl⟩, rfl⟩ := h
  rfl
theorem out29_inj {G : List Ent} : ∀ x y, out29 G x = out29 G y → x = y := by
  intro x y h
  cases x <;> cases y <;> first | rfl | (simp [out29] at h)

/-! ### All, of the program -/
def o30y (G : List Ent) (xs : Row) : AV × List Ent := (.tup [.dat (.list .any 1 xs), .dat (.int .i64 0)], G)
def o30n (G : List Ent) (e : Int) : AV × List Ent := (.tup [.dat (.list .nil 0 []), .dat (.int .i64 e)], G)
theorem o30y_inj {G : List Ent} : ∀ x y, o30y G x = o30y G y → x = y := by intro x y h; simpa [o30y] using h
theorem o30n_inj {G : List Ent} : ∀ x y, o30n G x = o30n G y → x = y := by intro x y h; simpa [o30n] using h

theorem f30_run {sz : Nat} {k : LK} {xs : Row} {G : List Ent} {ss : List Stp} (hsr : SR ss xs) (hz : ss ≠ [] → sz = 7) :
    (300 < ss.length → (f30t sz k xs G).run = some (o30n G 8)) ∧
    (ss.length ≤ 300 → (¬ ∀ s ∈ ss, okT s) → (f30t sz k xs G).run = some (o30n G 6)) ∧
    (ss = [] → (f30t sz k xs G).run = some (o30n G 0)) ∧
    (ss.length ≤ 300 → ss ≠ [] → (∀ s ∈ ss, okT s) → (f30t sz k xs G).run = some (o30y G (bRow (allT ss)))) := by
  rw [← Tr.ev_run, f30t_eq]
  have hl := hsr.1
  refine ⟨fun h => aT (by rw [hl, decide_eq_true_eq]; omega) rfl, fun h hno => aF (by rw [hl, decide_eq_false_iff_not]; omega) ?_, fun h => aF (by rw [hl, decide_eq_false_iff_not, h]; simp) ?_, fun h hne hok => aF (by rw [hl, decide_eq_false_iff_not]; omega) ?_⟩
  · match ss, hsr, hno, hz, hl, h with
    | [], _, hno, _, _, _ => exact absurd (by simp) hno
    | s :: ts, hsr, hno, hz, hl, h =>
      obtain ⟨p, hp⟩ := (loop30a (k := k) (G := G) hsr (hz (by simp)) h).2 hno
      exact aF (loS_no hp (fun x h => by simp [out30a, out30c] at h)) (aF (loS_no hp (fun x h => by simp [out30b, out30c] at h)) (gStep (loS_eq (out := out30c G) out30c_inj hp) rfl))
  · subst h
    obtain rfl : xs = [] := List.length_eq_zero_iff.1 hl
    have hp := loop30z (sz := sz) (k := k) (G := G)
    exact aT (loS_yes (o1 := out30a G) out30a_inj hp) (gStep (loS_eq (out := out30a G) out30a_inj hp) rfl)
  · match ss, hsr, hok, hz, hl, h, hne with
    | [], _, _, _, _, _, hne => exact absurd rfl hne
    | s :: ts, hsr, hok, hz, hl, h, _ =>
      have hp := (loop30a (k := k) (G := G) hsr (hz (by simp)) h).1 hok
      refine aF (loS_no hp (fun x h => by simp [out30a, out30b] at h)) (aT (loS_yes (o1 := out30b G) out30b_inj hp) (gStep (loS_eq (out := out30b G) out30b_inj hp) ?_))
      rw [List.drop_zero, List.take_length]
      rfl

/-! ### All, of the document -/
def o31 (G : List Ent) (p : ByteArray × Int) : AV × List Ent := (.tup [.dat (.str p.1), .dat (.int .i64 p.2)], G)
theorem o31_inj {G : List Ent} : ∀ x y, o31 G x = o31 G y → x = y := by
  rintro ⟨a, b⟩ ⟨c, d⟩ h
  simp [o31] at h
  obtain ⟨rfl, rfl⟩ := h
  rfl

theorem loop31 {k : LK} {xs : Row} {G : List Ent} : ∀ (ts pre : List Stp), SR1 (pre ++ ts) xs → (pre ++ ts).length ≤ 300 → (allT pre).length ≤ 400 * pre.length →
    ((∀ s ∈ ts, okT s) → LoopTo TT t31.runs (HSg 31) lp31 (inv31 k xs ⟨(allT pre).toArray⟩ G pre.length) (out31y G ⟨(allT (pre ++ ts)).toArray⟩)) ∧
    ((¬ ∀ s ∈ ts, okT s) → ∃ p, LoopTo TT t31.runs (HSg 31) lp31 (inv31 k xs ⟨(allT pre).toArray⟩ G pre.length) (out31n G p))
  | [], pre, hsr, hn, hb => by
    refine ⟨fun _ => LoopTo.last (orc := t31) (lo := noLo) (fun _ _ _ _ h => h) (LoOk2.no _) ?_ (by simp [out31y]), fun h => absurd (by simp) h⟩
    show (rk31 k xs ⟨(allT pre).toArray⟩ G pre.length).run = _
    rw [← Tr.ev_run, rk31_eq]
    have hl := hsr.1
    refine aF (by rw [hl]; simp) ?_
    rw [List.append_nil]
  | s :: ts, pre, hsr, hn, hb => by
    have hl := hsr.1
    obtain ⟨kk, hx⟩ := hsr.get rfl
    have hlt : pre.length < xs.length := by rw [hl]; simp
    have hpn : pre.length ≤ 1000 := by simp at hn; omega
    by_cases ok : okT s
    · have step : (rk31 k xs ⟨(allT pre).toArray⟩ G pre.length).run = some (.norm, inv31 k xs ⟨(allT (pre ++ [s])).toArray⟩ G ((pre ++ [s]).length : Nat)) := by
        rw [← Tr.ev_run, rk31_eq]
        have f := y20 (G := G) (kk := kk) ok
        refine aT (by simpa using hlt) (aT (by simpa using hlt) (gStep (by rw [Int.toNat_natCast]; exact hx) (gStep rfl (gStep rfl (gStep rfl (gStep rfl (gStep rfl (gStep rfl (gStep rfl ?_)))))))))
        refine aT (fnS_yes (o1 := o20y G) o20y_inj f) (gStep (fnS_eq (out := o20y G) o20y_inj f) ?_)
        have hp := putW_len ok
        refine aT ?_ ?_
        · rw [ba_size, ba_size, decide_eq_true_eq]
          simp at hn
          omega
        · rw [wI1 (s := s) hpn, ba_append, allT_append, allT_one]
          rfl
      have ih := loop31 (k := k) (G := G) ts (pre ++ [s]) (by simpa using hsr) (by simpa using hn) (by rw [allT_append, allT_one, List.length_append, List.length_append, List.length_singleton]; have := putW_len ok; omega)
      have e : pre ++ [s] ++ ts = pre ++ s :: ts := by simp
      rw [e] at ih
      refine ⟨fun h => LoopTo.more (orc := t31) (lo := noLo) (fun _ _ _ _ h => h) (LoOk2.no _) step (ih.1 fun t ht => h t (by simp [ht])), fun h => ?_⟩
      obtain ⟨p, hp⟩ := ih.2 (fun q => h (by
        intro t ht
        rcases List.mem_cons.1 ht with rfl | ht
        · exact ok
        · exact q t ht))
      exact ⟨p, LoopTo.more (orc := t31) (lo := noLo) (fun _ _ _ _ h => h) (LoOk2.no _) step hp⟩
    · refine ⟨fun h => absurd (h s (by simp)) ok, fun _ => ⟨⟨(allT pre).toArray⟩, LoopTo.last (orc := t31) (lo := noLo) (fun _ _ _ _ h => h) (LoOk2.no _) ?_ (by simp [out31n])⟩⟩
      show (rk31 k xs ⟨(allT pre).toArray⟩ G pre.length).run = _
      rw [← Tr.ev_run, rk31_eq]
      have f := n20 (G := G) (kk := kk) ok
      refine aT (by simpa using hlt) (aT (by simpa using hlt) (gStep (by rw [Int.toNat_natCast]; exact hx) (gStep rfl (gStep rfl (gStep rfl (gStep rfl (gStep rfl (gStep rfl (gStep rfl ?_)))))))))
      refine aF (fnS_no f no20) (gStep (fnS_eq (out := o20n G) o20n_inj f) rfl)

/-- all steps as bytes, or why not -/
def allR (ss : List Stp) : List UInt8 × Int := if 300 < ss.length then ([], 8) else if ∀ s ∈ ss, okT s then (allT ss, 0) else ([], 6)

theorem f31_run {k : LK} {xs : Row} {G : List Ent} {ss : List Stp} (hsr : SR1 ss xs) : (f31t k xs G).run = some (o31 G (⟨(allR ss).1.toArray⟩, (allR ss).2)) := by
  rw [← Tr.ev_run, f31t_eq]
  have hl := hsr.1
  unfold allR
  by_cases h : 300 < ss.length
  · rw [if_pos h]
    exact aT (by rw [hl, decide_eq_true_eq]; omega) rfl
  · rw [if_neg h]
    refine aF (by rw [hl, decide_eq_false_iff_not]; omega) ?_
    have hp := loop31 (k := k) (G := G) ss [] hsr (by simpa using h) (by simp [allT])
    by_cases hok : ∀ s ∈ ss, okT s
    · rw [if_pos hok]
      have hp := hp.1 hok
      exact aT (loS_yes (o1 := out31y G) out31y_inj hp) (gStep (loS_eq (out := out31y G) out31y_inj hp) rfl)
    · rw [if_neg hok]
      obtain ⟨p, hp⟩ := hp.2 hok
      exact aF (loS_no hp (fun x h => by simp [out31y, out31n] at h)) (gStep (loS_eq (out := out31n G) out31n_inj hp) rfl)

/-! ### Steps, of two lists that are alike -/
theorem loop29 {sz sz' : Nat} {k k' : LK} {xs ys : Row} {G : List Ent} : ∀ (ts pre : List Stp), SR (pre ++ ts) xs → SR (pre ++ ts) ys → (pre ++ ts ≠ [] → sz = 7) → (pre ++ ts ≠ [] → sz' = 7) → (pre ++ ts).length ≤ 1000 → (∀ s ∈ ts, s.keep.length ≤ maxLen) →
    LoopTo TT t29.runs (HSg 29) lp29 (inv29 sz k xs sz' k' ys G pre.length) (out29 G true)
  | [], pre, hsx, hsy, hz, hz', hn, hk => by
    refine LoopTo.last (orc := t29) (lo := noLo) (fun _ _ _ _ h => h) (LoOk2.no _) ?_ (by simp [out29])
    show (rk29 sz k xs sz' k' ys G pre.length).run = _
    rw [← Tr.ev_run, rk29_eq]
    have hl := hsx.1
    refine aF (by rw [hl]; simp) rfl
  | s :: ts, pre, hsx, hsy, hz, hz', hn, hk => by
    have hl := hsx.1
    have hl' := hsy.1
    obtain ⟨kk, z, hkz, hx⟩ := hsx.get rfl
    obtain ⟨kk', z', hkz', hy⟩ := hsy.get rfl
    obtain rfl : sz = 7 := hz (by simp)
    obtain rfl : sz' = 7 := hz' (by simp)
    have hlt : pre.length < xs.length := by rw [hl]; simp
    have hlt' : pre.length < ys.length := by rw [hl']; simp
    have hpn : pre.length ≤ 1000 := by simp at hn; omega
    have step : (rk29 7 k xs 7 k' ys G pre.length).run = some (.norm, inv29 7 k xs 7 k' ys G ((pre ++ [s]).length : Nat)) := by
      rw [← Tr.ev_run, rk29_eq]
      have f := p22z (k := s.kind) (nd := s.node) (at' := s.at') (n := s.n) (s := s.data) (p := s.stop) (kk := kk) (sz := z) (a := s.keep) (k' := s.kind) (nd' := s.node) (at'' := s.at') (n' := s.n) (s' := s.data) (p' := s.stop) (kk' := kk') (sz' := z') (b := s.keep) (G := G) (hk s (by simp)) hkz hkz'
      rw [sameS_self] at f
      refine aT (by simpa using hlt) (aT (by simpa using hlt) (gStep (by rw [Int.toNat_natCast]; exact hx) (gStep rfl (gStep rfl (gStep rfl (gStep rfl (gStep rfl (gStep rfl (gStep rfl ?_)))))))))
      refine aT (by simpa using hlt') (gStep (by rw [Int.toNat_natCast]; exact hy) (gStep rfl (gStep rfl (gStep rfl (gStep rfl (gStep rfl (gStep rfl (gStep rfl ?_))))))))
      refine gStep (fnS_eq (out := oB G) oB_inj f) (aF rfl ?_)
      rw [wI1 (s := s) hpn]
      rfl
    have ih := loop29 (sz := 7) (sz' := 7) (k := k) (k' := k') (G := G) ts (pre ++ [s]) (by simpa using hsx) (by simpa using hsy) (fun _ => rfl) (fun _ => rfl) (by simpa using hn) (fun t ht => hk t (by simp [ht]))
    exact LoopTo.more (orc := t29) (lo := noLo) (fun _ _ _ _ h => h) (LoOk2.no _) step ih

theorem f29_run {sz sz' : Nat} {k k' : LK} {xs ys : Row} {G : List Ent} {ss : List Stp} (hsx : SR ss xs) (hsy : SR ss ys) (hz : ss ≠ [] → sz = 7) (hz' : ss ≠ [] → sz' = 7) (hn : ss.length ≤ 1000) (hk : ∀ s ∈ ss, s.keep.length ≤ maxLen) :
    (f29t sz k xs sz' k' ys G).run = some (oB G true) := by
  rw [← Tr.ev_run, f29t_eq]
  have hp := loop29 (sz := sz) (sz' := sz') (k := k) (k' := k') (G := G) ss [] hsx hsy hz hz' hn hk
  exact aF (by rw [hsx.1, hsy.1]; simp) (gStep (loS_eq (out := out29 G) out29_inj hp) (aT rfl rfl))

/-! ### the document's Read -/
theorem loop28b {k : LK} {l : List UInt8} {G : List Ent} (hl : l.length ≤ 1000000) : ∀ (f i : Nat) (acc : List Stp) (ys : Row), i ≤ l.length → l.length - i ≤ f → SR acc ys → acc.length ≤ 300 → ∀ r, readF f (l.drop i) acc = r →
    (r.2 = 0 → ∃ zs, SR r.1 zs ∧ r.1.length ≥ acc.length ∧ LoopTo TT t28.runs (HSg 28) lp28 (inv28b k (bRow l) ys G i) (out28b G zs)) ∧
    (r.2 ≠ 0 → ∃ p, LoopTo TT t28.runs (HSg 28) lp28 (inv28b k (bRow l) ys G i) (out28c G (r.2, p))) := by
  intro f
  induction f with
  | zero =>
    intro i acc ys hi hf hsr ha r hr
    obtain rfl : i = l.length := by omega
    rw [List.drop_length] at hr
    rw [readF_nil] at hr
    subst hr
    refine ⟨fun _ => ⟨ys, hsr, Nat.le_refl _, LoopTo.last (orc := t28) (lo := noLo) (fun _ _ _ _ h => h) (LoOk2.no _) ?_ (by simp [out28b])⟩, fun h => absurd rfl h⟩
    show (rk28b k (bRow l) ys G l.length).run = _
    rw [← Tr.ev_run, rk28b_eq]
    exact aF (by simp) rfl
  | succ f ih =>
    intro i acc ys hi hf hsr ha r hr
    by_cases h0 : i = l.length
    · subst h0
      rw [List.drop_length, readF_nil] at hr
      subst hr
      refine ⟨fun _ => ⟨ys, hsr, Nat.le_refl _, LoopTo.last (orc := t28) (lo := noLo) (fun _ _ _ _ h => h) (LoOk2.no _) ?_ (by simp [out28b])⟩, fun h => absurd rfl h⟩
      show (rk28b k (bRow l) ys G l.length).run = _
      rw [← Tr.ev_run, rk28b_eq]
      exact aF (by simp) rfl
    · have hlt : i < l.length := by omega
      have hne : l.drop i ≠ [] := fun h => by
        have := congrArg List.length h
        rw [List.length_drop, List.length_nil] at this
        omega
      simp only [readF, if_neg hne] at hr
      have hys := hsr.1
      by_cases h1 : 300 ≤ acc.length
      · rw [if_pos h1] at hr
        subst hr
        refine ⟨fun h => absurd h (by decide), fun _ => ⟨(.sh false 0 7 0 ys.length, [some (.row .excl 7 ys)]), LoopTo.last (orc := t28) (lo := noLo) (fun _ _ _ _ h => h) (LoOk2.no _) ?_ (by simp [out28c])⟩⟩
        show (rk28b k (bRow l) ys G i).run = _
        rw [← Tr.ev_run, rk28b_eq]
        exact aT (by simpa using hlt) (aT (by rw [hys, decide_eq_true_eq]; omega) rfl)
      · rw [if_neg h1] at hr
        have hcut : List.take ((Int.toNat (((List.length (bRow l)) : Nat) : Int)) - (Int.toNat (i : Int))) (List.drop (Int.toNat (i : Int)) (bRow l)) = bRow (l.drop i) := by
          rw [Int.toNat_natCast, Int.toNat_natCast, bRow_drop, List.take_of_length_le]
          simp
        have hlast : ∀ kx, ∃ d, KeepD (getS (l.drop i)).1.keep d ∧ P26 [.dat (.list kx 1 (bRow (l.drop i)))] G = some (o23 G ((getS (l.drop i)).1.kind, (getS (l.drop i)).1.node, (getS (l.drop i)).1.at', (getS (l.drop i)).1.n, (getS (l.drop i)).1.data, (getS (l.drop i)).1.stop, d, (getS (l.drop i)).2.1, (getS (l.drop i)).2.2)) := fun kx => p26 (by rw [List.length_drop]; omega)
        obtain ⟨d, hd, hP⟩ := hlast (if ((k = LK.full) ∧ ((((List.length (bRow l)) : Nat) : Int) < (((List.length (bRow l)) : Nat) : Int))) then LK.any else k)
        by_cases h2 : (getS (l.drop i)).2.2 ≠ 0
        · rw [if_pos h2] at hr
          subst hr
          refine ⟨fun h => absurd h h2, fun _ => ⟨(.sh false 0 7 0 ys.length, [some (.row .excl 7 ys)]), LoopTo.last (orc := t28) (lo := noLo) (fun _ _ _ _ h => h) (LoOk2.no _) ?_ (by simp [out28c])⟩⟩
          show (rk28b k (bRow l) ys G i).run = _
          rw [← Tr.ev_run, rk28b_eq, hcut]
          refine aT (by simpa using hlt) (aF (by rw [hys, decide_eq_false_iff_not]; omega) (aT (by simp; omega) (aT (by simp) (gStep (fnS_eq (out := o23 G) o23_inj hP) (aT (by simpa using h2) rfl)))))
        · rw [if_neg h2] at hr
          have h2 : (getS (l.drop i)).2.2 = 0 := by simpa using h2
          have hp := getS_pos h2
          rw [List.length_drop] at hp
          have hi2 : i + (getS (l.drop i)).2.1.toNat ≤ l.length := by omega
          rw [List.drop_drop] at hr
          have ih2 := ih (i + (getS (l.drop i)).2.1.toNat) (acc ++ [(getS (l.drop i)).1]) (ys ++ [stpD (getS (l.drop i)).1 d]) hi2 (by omega) (hsr.snoc hd.kd) (by simp; omega) r hr
          have step : (rk28b k (bRow l) ys G i).run = some (.norm, inv28b k (bRow l) (ys ++ [stpD (getS (l.drop i)).1 d]) G ((i + (getS (l.drop i)).2.1.toNat : Nat) : Int)) := by
            rw [← Tr.ev_run, rk28b_eq, hcut]
            refine aT (by simpa using hlt) (aF (by rw [hys, decide_eq_false_iff_not]; omega) (aT (by simp; omega) (aT (by simp) (gStep (fnS_eq (out := o23 G) o23_inj hP) (aF (by simpa using h2) (aT ?_ (aT (by simp) ?_)))))))
            · rw [Nat.zero_add, Bool.and_eq_true, fits_iff]
              refine ⟨by simp, ?_⟩
              omega
            · have hw : IntKind.wrap .i64 ((i : Int) + (getS (l.drop i)).2.1) = ((i + (getS (l.drop i)).2.1.toNat : Nat) : Int) := by
                rw [IntKind.wrap_i64]; omega
              simp only [hw]
              unfold inv28b
              rw [List.length_append, List.length_singleton]
              rfl
          refine ⟨fun h => ?_, fun h => ?_⟩
          · obtain ⟨zs, q1, q2, q3⟩ := ih2.1 h
            exact ⟨zs, q1, by simp at q2; omega, LoopTo.more (orc := t28) (lo := noLo) (fun _ _ _ _ h => h) (LoOk2.no _) step q3⟩
          · obtain ⟨p, q⟩ := ih2.2 h
            exact ⟨p, LoopTo.more (orc := t28) (lo := noLo) (fun _ _ _ _ h => h) (LoOk2.no _) step q⟩

end Go.Eng
end
