/- Trace: the law's rounds. -/
import Derived.Test.YtkconbpjimjbnaaTpD
namespace Go.Eng
open Go
set_option maxRecDepth 100000

theorem rGet_step {α β : Type} {o : Option β} {k : β → Option α} {x : β} {r : Option α} (h : o = some x) (h2 : k x = r) : rGet o k = r := by rw [h]; exact h2
theorem rAsk_t {α : Type} {b : Bool} {t e r : Option α} (h : b = true) (h2 : t = r) : rAsk b t e = r := by rw [h]; exact h2
theorem rAsk_f {α : Type} {b : Bool} {t e r : Option α} (h : b = false) (h2 : e = r) : rAsk b t e = r := by rw [h]; exact h2

open Classical in
theorem rd0_eq (k : LK) (l : Row) (last : Int) (c : List D) : (rd0 k l last c).ev =
  (rAsk (decide ((0 : Int) < (((List.length l) : Nat) : Int)))
   (rAsk (true && (true && (decide ((0 : Int) < (((List.length l) : Nat) : Int)))))
    (rGet l[0]? fun x1 =>
     (rGet (List.head? (List.drop 0 x1)) fun x2 =>
      (rGet (List.head? (List.tail (List.drop 0 x1))) fun x3 =>
       (rGet (List.head? (List.tail (List.tail (List.drop 0 x1)))) fun x4 =>
        (rGet (List.head? (List.tail (List.tail (List.tail (List.drop 0 x1))))) fun x5 =>
         (rGet (List.head? (List.tail (List.tail (List.tail (List.tail (List.drop 0 x1)))))) fun x6 =>
          (rGet (D.int? IntKind.i64 x2) fun x7 =>
           (rAsk ((Int.tmod x7 (3 : Int)) == (0 : Int))
            (rGet (fnS (fun (b : Int × AV × Int × List D) => ((AV.dat (D.int IntKind.i64 b.1)), [(tobj b.2.1 b.2.2.1 b.2.2.2)])) (R 10 [(AV.ptr (Ref.glob 0) 0), (AV.dat x3), (AV.dat x4), (AV.dat x5)] [(tobj (AV.dat (D.list LK.nil 0 ([] : Row))) last c)])) fun x8 =>
             (rGet (fnS (fun (b : Int × Eng.Mode × Row) => ((AV.dat (D.int IntKind.i64 b.1)), [(tobj x8.2.1 x8.2.2.1 x8.2.2.2), (robj (AV.rowc b.2.1 4 b.2.2))])) (R 11 [(AV.ptr (Ref.glob 1) 0), (AV.dat x3), (AV.dat x4), (AV.dat x5)] [(tobj x8.2.1 x8.2.2.1 x8.2.2.2), (Ent.obj [(AV.dat (D.list LK.nil 0 ([] : Row)))])])) fun x9 =>
              (rAsk (x8.1 != x9.1)
               (some (Ex.ret, (St.mk (mkT 0 114 [(2, (AV.dat (D.bool false)))]) (Mem.mk [] [(tobj x8.2.1 x8.2.2.1 x8.2.2.2), (robj (AV.rowc x9.2.1 4 x9.2.2))] 0))))
               (rAsk (decide ([(tobj x8.2.1 x8.2.2.1 x8.2.2.2), (robj (AV.rowc x9.2.1 4 x9.2.2))] = [(tobj x8.2.1 x8.2.2.1 x8.2.2.2), (robj (AV.rowc x9.2.1 4 x9.2.2))]))
                (rAsk (x8.2.2.1 != (((List.length x9.2.2) : Nat) : Int))
                 (some (Ex.ret, (St.mk (mkT 0 114 [(2, (AV.dat (D.bool false)))]) (Mem.mk [] [(tobj x8.2.1 x8.2.2.1 x8.2.2.2), (robj (AV.rowc x9.2.1 4 x9.2.2))] 0))))
                 (some (Ex.norm, (St.mk (mkT 0 114 [(0, (AV.dat (D.list k 5 l))), (3, (AV.ptr (Ref.glob 0) 0)), (4, (AV.ptr (Ref.glob 1) 0)), (5, (AV.dat (D.int IntKind.i64 (1 : Int))))]) (Mem.mk [] [(tobj x8.2.1 x8.2.2.1 x8.2.2.2), (robj (AV.rowc x9.2.1 4 x9.2.2))] 0))))
                )
                none
               )
              )
             )
            )
            (rAsk ((Int.tmod x7 (3 : Int)) == (1 : Int))
             (rGet (fnS (fun (b : D × Int) => ((AV.tup [(AV.dat b.1), (AV.dat (D.int IntKind.i64 b.2))]), [(tobj (AV.dat (D.list LK.nil 0 ([] : Row))) last c)])) (R 12 [(AV.ptr (Ref.glob 0) 0), (AV.dat x6)] [(tobj (AV.dat (D.list LK.nil 0 ([] : Row))) last c)])) fun x10 =>
              (rGet (fnS (fun (b : D × Int) => ((AV.tup [(AV.dat b.1), (AV.dat (D.int IntKind.i64 b.2))]), [(tobj (AV.dat (D.list LK.nil 0 ([] : Row))) last c), (Ent.obj [(AV.dat (D.list LK.nil 0 ([] : Row)))])])) (R 13 [(AV.ptr (Ref.glob 1) 0), (AV.dat x6)] [(tobj (AV.dat (D.list LK.nil 0 ([] : Row))) last c), (Ent.obj [(AV.dat (D.list LK.nil 0 ([] : Row)))])])) fun x11 =>
               (rGet (fnS (fun (b : Bool) => ((AV.dat (D.bool b)), [(tobj (AV.dat (D.list LK.nil 0 ([] : Row))) last c), (Ent.obj [(AV.dat (D.list LK.nil 0 ([] : Row)))])])) (R14 [(AV.dat x10.1), (AV.dat x11.1)] [(tobj (AV.dat (D.list LK.nil 0 ([] : Row))) last c), (Ent.obj [(AV.dat (D.list LK.nil 0 ([] : Row)))])])) fun x12 =>
                (rAsk (!x12)
                 (some (Ex.ret, (St.mk (mkT 0 114 [(2, (AV.dat (D.bool false)))]) (Mem.mk [] [(tobj (AV.dat (D.list LK.nil 0 ([] : Row))) last c), (Ent.obj [(AV.dat (D.list LK.nil 0 ([] : Row)))])] 0))))
                 (rAsk (x10.2 != x11.2)
                  (some (Ex.ret, (St.mk (mkT 0 114 [(2, (AV.dat (D.bool false)))]) (Mem.mk [] [(tobj (AV.dat (D.list LK.nil 0 ([] : Row))) last c), (Ent.obj [(AV.dat (D.list LK.nil 0 ([] : Row)))])] 0))))
                  (rGet (loS TT (TOrc.runs tL) H3 lp21 (out21 (AV.dat (D.list k 5 l)) (AV.ptr (Ref.glob 0) 0) (AV.ptr (Ref.glob 1) 0) (AV.dat (D.int IntKind.i64 (0 : Int))) [(tobj (AV.dat (D.list LK.nil 0 ([] : Row))) last c), (Ent.obj [(AV.dat (D.list LK.nil 0 ([] : Row)))])]) (St.mk (mkT 0 114 [(0, (AV.dat (D.list k 5 l))), (3, (AV.ptr (Ref.glob 0) 0)), (4, (AV.ptr (Ref.glob 1) 0)), (5, (AV.dat (D.int IntKind.i64 (0 : Int)))), (7, (AV.dat x10.1)), (11, (AV.dat (D.int IntKind.i64 (0 : Int))))]) (Mem.mk [] [(tobj (AV.dat (D.list LK.nil 0 ([] : Row))) last c), (Ent.obj [(AV.dat (D.list LK.nil 0 ([] : Row)))])] 0))) fun x13 =>
                   (rAsk (decide ([(tobj (AV.dat (D.list LK.nil 0 ([] : Row))) last c), (Ent.obj [(AV.dat (D.list LK.nil 0 ([] : Row)))])] = [(tobj (AV.dat (D.list LK.nil 0 ([] : Row))) last c), (Ent.obj [(AV.dat (D.list LK.nil 0 ([] : Row)))])]))
                    (rAsk (last != (0 : Int))
                     (some (Ex.ret, (St.mk (mkT 0 114 [(2, (AV.dat (D.bool false)))]) (Mem.mk [] [(tobj (AV.dat (D.list LK.nil 0 ([] : Row))) last c), (Ent.obj [(AV.dat (D.list LK.nil 0 ([] : Row)))])] 0))))
                     (some (Ex.norm, (St.mk (mkT 0 114 [(0, (AV.dat (D.list k 5 l))), (3, (AV.ptr (Ref.glob 0) 0)), (4, (AV.ptr (Ref.glob 1) 0)), (5, (AV.dat (D.int IntKind.i64 (1 : Int))))]) (Mem.mk [] [(tobj (AV.dat (D.list LK.nil 0 ([] : Row))) last c), (Ent.obj [(AV.dat (D.list LK.nil 0 ([] : Row)))])] 0))))
                    )
                    none
                   )
                  )
                 )
                )
               )
              )
             )
             (rGet (fnS (fun (n : Int) => ((AV.dat (D.int IntKind.i64 n)), [(tobj (AV.dat (D.list LK.nil 0 ([] : Row))) last c)])) (R 16 [(AV.ptr (Ref.glob 0) 0), (AV.dat x3)] [(tobj (AV.dat (D.list LK.nil 0 ([] : Row))) last c)])) fun x14 =>
              (rGet (fnS (fun (n : Int) => ((AV.dat (D.int IntKind.i64 n)), [(tobj (AV.dat (D.list LK.nil 0 ([] : Row))) last c), (Ent.obj [(AV.dat (D.list LK.nil 0 ([] : Row)))])])) (R17 [(AV.ptr (Ref.glob 1) 0), (AV.dat x3)] [(tobj (AV.dat (D.list LK.nil 0 ([] : Row))) last c), (Ent.obj [(AV.dat (D.list LK.nil 0 ([] : Row)))])])) fun x15 =>
               (rAsk (x14 != x15)
                (some (Ex.ret, (St.mk (mkT 0 114 [(2, (AV.dat (D.bool false)))]) (Mem.mk [] [(tobj (AV.dat (D.list LK.nil 0 ([] : Row))) last c), (Ent.obj [(AV.dat (D.list LK.nil 0 ([] : Row)))])] 0))))
                (rAsk (decide ([(tobj (AV.dat (D.list LK.nil 0 ([] : Row))) last c), (Ent.obj [(AV.dat (D.list LK.nil 0 ([] : Row)))])] = [(tobj (AV.dat (D.list LK.nil 0 ([] : Row))) last c), (Ent.obj [(AV.dat (D.list LK.nil 0 ([] : Row)))])]))
                 (rAsk (last != (0 : Int))
                  (some (Ex.ret, (St.mk (mkT 0 114 [(2, (AV.dat (D.bool false)))]) (Mem.mk [] [(tobj (AV.dat (D.list LK.nil 0 ([] : Row))) last c), (Ent.obj [(AV.dat (D.list LK.nil 0 ([] : Row)))])] 0))))
                  (some (Ex.norm, (St.mk (mkT 0 114 [(0, (AV.dat (D.list k 5 l))), (3, (AV.ptr (Ref.glob 0) 0)), (4, (AV.ptr (Ref.glob 1) 0)), (5, (AV.dat (D.int IntKind.i64 (1 : Int))))]) (Mem.mk [] [(tobj (AV.dat (D.list LK.nil 0 ([] : Row))) last c), (Ent.obj [(AV.dat (D.list LK.nil 0 ([] : Row)))])] 0))))
                 )
                 none
                )
               )
              )
             )
            )
           )
          )
         )
        )
       )
      )
     )
    )
    none
   )
   (some ((Ex.exit 0), (St.mk (mkT 0 114 []) (Mem.mk [] [(tobj (AV.dat (D.list LK.nil 0 ([] : Row))) last c)] 0))))
  )
  := by kernel_rfl

open Classical in
theorem rdA_eq (k : LK) (l : Row) (i : Int) (kc : AV) (last : Int) (c : List D) : (rdA k l i kc last c).ev =
  (rAsk (decide (i < (((List.length l) : Nat) : Int)))
   (rAsk (true && ((decide ((0 : Int) ≤ i)) && (decide (i < (((List.length l) : Nat) : Int)))))
    (rGet l[(Int.toNat i)]? fun x1 =>
     (rGet (List.head? (List.drop 0 x1)) fun x2 =>
      (rGet (List.head? (List.tail (List.drop 0 x1))) fun x3 =>
       (rGet (List.head? (List.tail (List.tail (List.drop 0 x1)))) fun x4 =>
        (rGet (List.head? (List.tail (List.tail (List.tail (List.drop 0 x1))))) fun x5 =>
         (rGet (List.head? (List.tail (List.tail (List.tail (List.tail (List.drop 0 x1)))))) fun x6 =>
          (rGet (D.int? IntKind.i64 x2) fun x7 =>
           (rAsk ((Int.tmod x7 (3 : Int)) == (0 : Int))
            (rGet (fnS (fun (b : Int × AV × Int × List D) => ((AV.dat (D.int IntKind.i64 b.1)), [(tobj b.2.1 b.2.2.1 b.2.2.2), (robj (AV.dat (D.list LK.nil 0 ([] : Row))))])) (R 10 [(AV.ptr (Ref.glob 0) 0), (AV.dat x3), (AV.dat x4), (AV.dat x5)] [(tobj kc last c), (robj (AV.dat (D.list LK.nil 0 ([] : Row))))])) fun x8 =>
             (rGet (fnS (fun (b : Int × Eng.Mode × Row) => ((AV.dat (D.int IntKind.i64 b.1)), [(tobj x8.2.1 x8.2.2.1 x8.2.2.2), (robj (AV.rowc b.2.1 4 b.2.2))])) (R 11 [(AV.ptr (Ref.glob 1) 0), (AV.dat x3), (AV.dat x4), (AV.dat x5)] [(tobj x8.2.1 x8.2.2.1 x8.2.2.2), (robj (AV.dat (D.list LK.nil 0 ([] : Row))))])) fun x9 =>
              (rAsk (x8.1 != x9.1)
               (some (Ex.ret, (St.mk (mkT 0 114 [(2, (AV.dat (D.bool false)))]) (Mem.mk [] [(tobj x8.2.1 x8.2.2.1 x8.2.2.2), (robj (AV.rowc x9.2.1 4 x9.2.2))] 0))))
               (rAsk (decide ([(tobj x8.2.1 x8.2.2.1 x8.2.2.2), (robj (AV.rowc x9.2.1 4 x9.2.2))] = [(tobj x8.2.1 x8.2.2.1 x8.2.2.2), (robj (AV.rowc x9.2.1 4 x9.2.2))]))
                (rAsk (x8.2.2.1 != (((List.length x9.2.2) : Nat) : Int))
                 (some (Ex.ret, (St.mk (mkT 0 114 [(2, (AV.dat (D.bool false)))]) (Mem.mk [] [(tobj x8.2.1 x8.2.2.1 x8.2.2.2), (robj (AV.rowc x9.2.1 4 x9.2.2))] 0))))
                 (some (Ex.norm, (St.mk (mkT 0 114 [(0, (AV.dat (D.list k 5 l))), (3, (AV.ptr (Ref.glob 0) 0)), (4, (AV.ptr (Ref.glob 1) 0)), (5, (AV.dat (D.int IntKind.i64 (IntKind.wrap IntKind.i64 (i + (1 : Int))))))]) (Mem.mk [] [(tobj x8.2.1 x8.2.2.1 x8.2.2.2), (robj (AV.rowc x9.2.1 4 x9.2.2))] 0))))
                )
                none
               )
              )
             )
            )
            (rAsk ((Int.tmod x7 (3 : Int)) == (1 : Int))
             (rGet (fnS (fun (b : D × Int) => ((AV.tup [(AV.dat b.1), (AV.dat (D.int IntKind.i64 b.2))]), [(tobj kc last c), (robj (AV.dat (D.list LK.nil 0 ([] : Row))))])) (R 12 [(AV.ptr (Ref.glob 0) 0), (AV.dat x6)] [(tobj kc last c), (robj (AV.dat (D.list LK.nil 0 ([] : Row))))])) fun x10 =>
              (rGet (fnS (fun (b : D × Int) => ((AV.tup [(AV.dat b.1), (AV.dat (D.int IntKind.i64 b.2))]), [(tobj kc last c), (robj (AV.dat (D.list LK.nil 0 ([] : Row))))])) (R 13 [(AV.ptr (Ref.glob 1) 0), (AV.dat x6)] [(tobj kc last c), (robj (AV.dat (D.list LK.nil 0 ([] : Row))))])) fun x11 =>
               (rGet (fnS (fun (b : Bool) => ((AV.dat (D.bool b)), [(tobj kc last c), (robj (AV.dat (D.list LK.nil 0 ([] : Row))))])) (R14 [(AV.dat x10.1), (AV.dat x11.1)] [(tobj kc last c), (robj (AV.dat (D.list LK.nil 0 ([] : Row))))])) fun x12 =>
                (rAsk (!x12)
                 (some (Ex.ret, (St.mk (mkT 0 114 [(2, (AV.dat (D.bool false)))]) (Mem.mk [] [(tobj kc last c), (robj (AV.dat (D.list LK.nil 0 ([] : Row))))] 0))))
                 (rAsk (x10.2 != x11.2)
                  (some (Ex.ret, (St.mk (mkT 0 114 [(2, (AV.dat (D.bool false)))]) (Mem.mk [] [(tobj kc last c), (robj (AV.dat (D.list LK.nil 0 ([] : Row))))] 0))))
                  (rGet (loS TT (TOrc.runs tL) H3 lp21 (out21 (AV.dat (D.list k 5 l)) (AV.ptr (Ref.glob 0) 0) (AV.ptr (Ref.glob 1) 0) (AV.dat (D.int IntKind.i64 i)) [(tobj kc last c), (robj (AV.dat (D.list LK.nil 0 ([] : Row))))]) (St.mk (mkT 0 114 [(0, (AV.dat (D.list k 5 l))), (3, (AV.ptr (Ref.glob 0) 0)), (4, (AV.ptr (Ref.glob 1) 0)), (5, (AV.dat (D.int IntKind.i64 i))), (7, (AV.dat x10.1)), (11, (AV.dat (D.int IntKind.i64 (0 : Int))))]) (Mem.mk [] [(tobj kc last c), (robj (AV.dat (D.list LK.nil 0 ([] : Row))))] 0))) fun x13 =>
                   (rAsk (decide ([(tobj kc last c), (robj (AV.dat (D.list LK.nil 0 ([] : Row))))] = [(tobj kc last c), (robj (AV.dat (D.list LK.nil 0 ([] : Row))))]))
                    (rAsk (last != (0 : Int))
                     (some (Ex.ret, (St.mk (mkT 0 114 [(2, (AV.dat (D.bool false)))]) (Mem.mk [] [(tobj kc last c), (robj (AV.dat (D.list LK.nil 0 ([] : Row))))] 0))))
                     (some (Ex.norm, (St.mk (mkT 0 114 [(0, (AV.dat (D.list k 5 l))), (3, (AV.ptr (Ref.glob 0) 0)), (4, (AV.ptr (Ref.glob 1) 0)), (5, (AV.dat (D.int IntKind.i64 (IntKind.wrap IntKind.i64 (i + (1 : Int))))))]) (Mem.mk [] [(tobj kc last c), (robj (AV.dat (D.list LK.nil 0 ([] : Row))))] 0))))
                    )
                    none
                   )
                  )
                 )
                )
               )
              )
             )
             (rGet (fnS (fun (n : Int) => ((AV.dat (D.int IntKind.i64 n)), [(tobj kc last c), (robj (AV.dat (D.list LK.nil 0 ([] : Row))))])) (R 16 [(AV.ptr (Ref.glob 0) 0), (AV.dat x3)] [(tobj kc last c), (robj (AV.dat (D.list LK.nil 0 ([] : Row))))])) fun x14 =>
              (rGet (fnS (fun (n : Int) => ((AV.dat (D.int IntKind.i64 n)), [(tobj kc last c), (robj (AV.dat (D.list LK.nil 0 ([] : Row))))])) (R17 [(AV.ptr (Ref.glob 1) 0), (AV.dat x3)] [(tobj kc last c), (robj (AV.dat (D.list LK.nil 0 ([] : Row))))])) fun x15 =>
               (rAsk (x14 != x15)
                (some (Ex.ret, (St.mk (mkT 0 114 [(2, (AV.dat (D.bool false)))]) (Mem.mk [] [(tobj kc last c), (robj (AV.dat (D.list LK.nil 0 ([] : Row))))] 0))))
                (rAsk (decide ([(tobj kc last c), (robj (AV.dat (D.list LK.nil 0 ([] : Row))))] = [(tobj kc last c), (robj (AV.dat (D.list LK.nil 0 ([] : Row))))]))
                 (rAsk (last != (0 : Int))
                  (some (Ex.ret, (St.mk (mkT 0 114 [(2, (AV.dat (D.bool false)))]) (Mem.mk [] [(tobj kc last c), (robj (AV.dat (D.list LK.nil 0 ([] : Row))))] 0))))
                  (some (Ex.norm, (St.mk (mkT 0 114 [(0, (AV.dat (D.list k 5 l))), (3, (AV.ptr (Ref.glob 0) 0)), (4, (AV.ptr (Ref.glob 1) 0)), (5, (AV.dat (D.int IntKind.i64 (IntKind.wrap IntKind.i64 (i + (1 : Int))))))]) (Mem.mk [] [(tobj kc last c), (robj (AV.dat (D.list LK.nil 0 ([] : Row))))] 0))))
                 )
                 none
                )
               )
              )
             )
            )
           )
          )
         )
        )
       )
      )
     )
    )
    none
   )
   (some ((Ex.exit 0), (St.mk (mkT 0 114 []) (Mem.mk [] [(tobj kc last c), (robj (AV.dat (D.list LK.nil 0 ([] : Row))))] 0))))
  )
  := by kernel_rfl

open Classical in
theorem rdB_eq (k : LK) (l : Row) (i : Int) (kc : AV) (last : Int) (c : List D) (md : Mode) (xs : Row) : (rdB k l i kc last c md xs).ev =
  (rAsk (decide (i < (((List.length l) : Nat) : Int)))
   (rAsk (true && ((decide ((0 : Int) ≤ i)) && (decide (i < (((List.length l) : Nat) : Int)))))
    (rGet l[(Int.toNat i)]? fun x1 =>
     (rGet (List.head? (List.drop 0 x1)) fun x2 =>
      (rGet (List.head? (List.tail (List.drop 0 x1))) fun x3 =>
       (rGet (List.head? (List.tail (List.tail (List.drop 0 x1)))) fun x4 =>
        (rGet (List.head? (List.tail (List.tail (List.tail (List.drop 0 x1))))) fun x5 =>
         (rGet (List.head? (List.tail (List.tail (List.tail (List.tail (List.drop 0 x1)))))) fun x6 =>
          (rGet (D.int? IntKind.i64 x2) fun x7 =>
           (rAsk ((Int.tmod x7 (3 : Int)) == (0 : Int))
            (rGet (fnS (fun (b : Int × AV × Int × List D) => ((AV.dat (D.int IntKind.i64 b.1)), [(tobj b.2.1 b.2.2.1 b.2.2.2), (robj (AV.rowc md 4 xs))])) (R 10 [(AV.ptr (Ref.glob 0) 0), (AV.dat x3), (AV.dat x4), (AV.dat x5)] [(tobj kc last c), (robj (AV.rowc md 4 xs))])) fun x8 =>
             (rGet (fnS (fun (b : Int × Eng.Mode × Row) => ((AV.dat (D.int IntKind.i64 b.1)), [(tobj x8.2.1 x8.2.2.1 x8.2.2.2), (robj (AV.rowc b.2.1 4 b.2.2))])) (R 11 [(AV.ptr (Ref.glob 1) 0), (AV.dat x3), (AV.dat x4), (AV.dat x5)] [(tobj x8.2.1 x8.2.2.1 x8.2.2.2), (robj (AV.rowc md 4 xs))])) fun x9 =>
              (rAsk (x8.1 != x9.1)
               (some (Ex.ret, (St.mk (mkT 0 114 [(2, (AV.dat (D.bool false)))]) (Mem.mk [] [(tobj x8.2.1 x8.2.2.1 x8.2.2.2), (robj (AV.rowc x9.2.1 4 x9.2.2))] 0))))
               (rAsk (decide ([(tobj x8.2.1 x8.2.2.1 x8.2.2.2), (robj (AV.rowc x9.2.1 4 x9.2.2))] = [(tobj x8.2.1 x8.2.2.1 x8.2.2.2), (robj (AV.rowc x9.2.1 4 x9.2.2))]))
                (rAsk (x8.2.2.1 != (((List.length x9.2.2) : Nat) : Int))
                 (some (Ex.ret, (St.mk (mkT 0 114 [(2, (AV.dat (D.bool false)))]) (Mem.mk [] [(tobj x8.2.1 x8.2.2.1 x8.2.2.2), (robj (AV.rowc x9.2.1 4 x9.2.2))] 0))))
                 (some (Ex.norm, (St.mk (mkT 0 114 [(0, (AV.dat (D.list k 5 l))), (3, (AV.ptr (Ref.glob 0) 0)), (4, (AV.ptr (Ref.glob 1) 0)), (5, (AV.dat (D.int IntKind.i64 (IntKind.wrap IntKind.i64 (i + (1 : Int))))))]) (Mem.mk [] [(tobj x8.2.1 x8.2.2.1 x8.2.2.2), (robj (AV.rowc x9.2.1 4 x9.2.2))] 0))))
                )
                none
               )
              )
             )
            )
            (rAsk ((Int.tmod x7 (3 : Int)) == (1 : Int))
             (rGet (fnS (fun (b : D × Int) => ((AV.tup [(AV.dat b.1), (AV.dat (D.int IntKind.i64 b.2))]), [(tobj kc last c), (robj (AV.rowc md 4 xs))])) (R 12 [(AV.ptr (Ref.glob 0) 0), (AV.dat x6)] [(tobj kc last c), (robj (AV.rowc md 4 xs))])) fun x10 =>
              (rGet (fnS (fun (b : D × Int × Eng.Mode) => ((AV.tup [(AV.dat b.1), (AV.dat (D.int IntKind.i64 b.2.1))]), [(tobj kc last c), (robj (AV.rowc b.2.2 4 xs))])) (R 13 [(AV.ptr (Ref.glob 1) 0), (AV.dat x6)] [(tobj kc last c), (robj (AV.rowc md 4 xs))])) fun x11 =>
               (rGet (fnS (fun (b : Bool) => ((AV.dat (D.bool b)), [(tobj kc last c), (robj (AV.rowc x11.2.2 4 xs))])) (R14 [(AV.dat x10.1), (AV.dat x11.1)] [(tobj kc last c), (robj (AV.rowc x11.2.2 4 xs))])) fun x12 =>
                (rAsk (!x12)
                 (some (Ex.ret, (St.mk (mkT 0 114 [(2, (AV.dat (D.bool false)))]) (Mem.mk [] [(tobj kc last c), (robj (AV.rowc x11.2.2 4 xs))] 0))))
                 (rAsk (x10.2 != x11.2.1)
                  (some (Ex.ret, (St.mk (mkT 0 114 [(2, (AV.dat (D.bool false)))]) (Mem.mk [] [(tobj kc last c), (robj (AV.rowc x11.2.2 4 xs))] 0))))
                  (rGet (loS TT (TOrc.runs tL) H3 lp21 (out21 (AV.dat (D.list k 5 l)) (AV.ptr (Ref.glob 0) 0) (AV.ptr (Ref.glob 1) 0) (AV.dat (D.int IntKind.i64 i)) [(tobj kc last c), (robj (AV.rowc x11.2.2 4 xs))]) (St.mk (mkT 0 114 [(0, (AV.dat (D.list k 5 l))), (3, (AV.ptr (Ref.glob 0) 0)), (4, (AV.ptr (Ref.glob 1) 0)), (5, (AV.dat (D.int IntKind.i64 i))), (7, (AV.dat x10.1)), (11, (AV.dat (D.int IntKind.i64 (0 : Int))))]) (Mem.mk [] [(tobj kc last c), (robj (AV.rowc x11.2.2 4 xs))] 0))) fun x13 =>
                   (rAsk (decide ([(tobj kc last c), (robj (AV.rowc x11.2.2 4 xs))] = [(tobj kc last c), (robj (AV.rowc x11.2.2 4 xs))]))
                    (rAsk (last != (((List.length xs) : Nat) : Int))
                     (some (Ex.ret, (St.mk (mkT 0 114 [(2, (AV.dat (D.bool false)))]) (Mem.mk [] [(tobj kc last c), (robj (AV.rowc x11.2.2 4 xs))] 0))))
                     (some (Ex.norm, (St.mk (mkT 0 114 [(0, (AV.dat (D.list k 5 l))), (3, (AV.ptr (Ref.glob 0) 0)), (4, (AV.ptr (Ref.glob 1) 0)), (5, (AV.dat (D.int IntKind.i64 (IntKind.wrap IntKind.i64 (i + (1 : Int))))))]) (Mem.mk [] [(tobj kc last c), (robj (AV.rowc x11.2.2 4 xs))] 0))))
                    )
                    none
                   )
                  )
                 )
                )
               )
              )
             )
             (rGet (fnS (fun (n : Int) => ((AV.dat (D.int IntKind.i64 n)), [(tobj kc last c), (robj (AV.rowc md 4 xs))])) (R 16 [(AV.ptr (Ref.glob 0) 0), (AV.dat x3)] [(tobj kc last c), (robj (AV.rowc md 4 xs))])) fun x14 =>
              (rGet (fnS (fun (n : Int) => ((AV.dat (D.int IntKind.i64 n)), [(tobj kc last c), (robj (AV.rowc md 4 xs))])) (R17 [(AV.ptr (Ref.glob 1) 0), (AV.dat x3)] [(tobj kc last c), (robj (AV.rowc md 4 xs))])) fun x15 =>
               (rAsk (x14 != x15)
                (some (Ex.ret, (St.mk (mkT 0 114 [(2, (AV.dat (D.bool false)))]) (Mem.mk [] [(tobj kc last c), (robj (AV.rowc md 4 xs))] 0))))
                (rAsk (decide ([(tobj kc last c), (robj (AV.rowc md 4 xs))] = [(tobj kc last c), (robj (AV.rowc md 4 xs))]))
                 (rAsk (last != (((List.length xs) : Nat) : Int))
                  (some (Ex.ret, (St.mk (mkT 0 114 [(2, (AV.dat (D.bool false)))]) (Mem.mk [] [(tobj kc last c), (robj (AV.rowc md 4 xs))] 0))))
                  (some (Ex.norm, (St.mk (mkT 0 114 [(0, (AV.dat (D.list k 5 l))), (3, (AV.ptr (Ref.glob 0) 0)), (4, (AV.ptr (Ref.glob 1) 0)), (5, (AV.dat (D.int IntKind.i64 (IntKind.wrap IntKind.i64 (i + (1 : Int))))))]) (Mem.mk [] [(tobj kc last c), (robj (AV.rowc md 4 xs))] 0))))
                 )
                 none
                )
               )
              )
             )
            )
           )
          )
         )
        )
       )
      )
     )
    )
    none
   )
   (some ((Ex.exit 0), (St.mk (mkT 0 114 []) (Mem.mk [] [(tobj kc last c), (robj (AV.rowc md 4 xs))] 0))))
  )
  := by kernel_rfl

/-! ### all shapes of the program's object -/
def KC (X : Row) : AV := match X with
  | [] => nilA
  | X => keptA X

theorem KC_ne {X : Row} (h : X ≠ []) : KC X = keptA X := by
  cases X with
  | nil => exact absurd rfl h
  | cons a r => rfl

theorem KC_snoc {X : Row} {e : List D} : KC (X ++ [e]) = keptA (X ++ [e]) := KC_ne (by simp)

theorem lastR_snoc {X : Row} {e : List D} (h : 40 < X.length) : keptA (lastR X ++ [e]) = keptA (X ++ [e]) := by
  have hL : (lastR X).length = 40 := by unfold lastR; simp; omega
  unfold keptA
  rw [if_pos (by simp [hL]), if_pos (by simp; omega)]
  congr 1
  unfold lastR
  rw [List.length_append, List.length_append, List.length_drop, List.length_cons, List.length_nil]
  rw [List.drop_append_of_le_length (by simp <;> omega), List.drop_append_of_le_length (by omega), List.drop_drop]
  congr 2
  omega

theorem add_all {X : Row} {cs : List Int} {k n w : Int} {o2 : List Ent} (hx : X.length ≤ 900) (hl : cs.length = 16) (hb : ∀ x ∈ cs, 0 ≤ x ∧ x ≤ 1000) :
    R 10 [pT, i64 k, i64 n, i64 w] (tobj (KC X) X.length (cR cs) :: o2) = some (i64 (X.length + 1), tobj (KC (X ++ [evR (X.length + 1) k n w])) (X.length + 1) (cR (bump cs k)) :: o2) := by
  rw [KC_snoc]
  by_cases h0 : X = []
  · subst h0
    exact add0_run hl hb
  · rw [KC_ne h0]
    by_cases h4 : X.length > 40
    · have e : keptA X = fulA (lastR X) := by unfold keptA; rw [if_pos h4]
      rw [e, ← lastR_snoc h4]
      exact add2_run (by unfold lastR; simp; omega) (by omega) hl hb
    · have e : keptA X = rowA .excl X := by unfold keptA; rw [if_neg h4]
      rw [e]
      exact add1_run (by omega) (by omega) hl hb

theorem since_all {X : Row} {c : List D} {n : Int} {o2 : List Ent} (hx : X.length ≤ 900) : ∃ K s, R 12 [pT, i64 n] (tobj (KC X) X.length c :: o2) = some (.tup [.dat (.list K s (tellY X n)), i64 (tellE X n)], tobj (KC X) X.length c :: o2) ∧ (tellY X n = [] ∨ s = 4) := by
  by_cases h0 : X = []
  · subst h0
    exact since0_run
  · rw [KC_ne h0]
    by_cases h4 : X.length > 40
    · have e : keptA X = fulA (lastR X) := by unfold keptA; rw [if_pos h4]
      rw [e]
      exact since2_run h4 hx
    · have e : keptA X = rowA .excl X := by unfold keptA; rw [if_neg h4]
      rw [e]
      exact since1_run (by omega)

theorem radd_all {X : Row} {md : Mode} {k n w : Int} {o1 : Ent} (hx : X.length ≤ 900) (hmd : md ≠ .ro) : R 11 [pR, i64 k, i64 n, i64 w] [o1, robj (rowA md X)] = some (i64 (X.length + 1), [o1, robj (rowA md (X ++ [evR (X.length + 1) k n w]))]) := by
  cases md with
  | excl => exact radd1_run hx
  | own => exact radd2_run hx
  | ro => exact absurd rfl hmd

theorem rsince_all {X : Row} {md : Mode} {n : Int} {o1 : Ent} (hx : X.length ≤ 900) (hmd : md ≠ .ro) : ∃ K s md', md' ≠ .ro ∧ R 13 [pR, i64 n] [o1, robj (rowA md X)] = some (.tup [.dat (.list K s (tellY X n)), i64 (tellE X n)], [o1, robj (rowA md' X)]) ∧ (tellY X n = [] ∨ s = 4) := by
  cases md with
  | excl => exact rsince1_run hx
  | own => exact rsince2_run hx
  | ro => exact absurd rfl hmd

/-! ### shapes are told apart -/
theorem tobj_inj {a a' : AV} {b b' : Int} {c c' : List D} (h : tobj a b c = tobj a' b' c') : a = a' ∧ b = b' ∧ c = c' := by
  simp only [tobj, i64, Ent.obj.injEq, List.cons.injEq, AV.dat.injEq, D.int.injEq, true_and] at h
  refine ⟨h.1, h.2.1, ?_⟩
  exact (List.map_inj_right (fun x y e => by injection e)).1 h.2.2

theorem inj10 {o2 : List Ent} : ∀ x y : Int × AV × Int × List D, ((AV.dat (D.int .i64 x.1), tobj x.2.1 x.2.2.1 x.2.2.2 :: o2) : AV × List Ent) = (AV.dat (D.int .i64 y.1), tobj y.2.1 y.2.2.1 y.2.2.2 :: o2) → x = y := by
  rintro ⟨a, b, c, d⟩ ⟨a', b', c', d'⟩ h
  simp only [Prod.mk.injEq, AV.dat.injEq, D.int.injEq, true_and, List.cons.injEq, and_true] at h
  obtain ⟨h1, h2⟩ := h
  obtain ⟨h3, h4, h5⟩ := tobj_inj h2
  rw [h1, h3, h4, h5]

theorem inj11 {o1 : Ent} : ∀ x y : Int × Mode × Row, ((AV.dat (D.int .i64 x.1), [o1, robj (AV.rowc x.2.1 4 x.2.2)]) : AV × List Ent) = (AV.dat (D.int .i64 y.1), [o1, robj (AV.rowc y.2.1 4 y.2.2)]) → x = y := by
  rintro ⟨a, b, c⟩ ⟨a', b', c'⟩ h
  simp only [robj, Prod.mk.injEq, AV.dat.injEq, D.int.injEq, true_and, List.cons.injEq, and_true, Ent.obj.injEq, AV.rowc.injEq] at h
  obtain ⟨h1, h2, h3⟩ := h
  rw [h1, h2, h3]

theorem inj12 {G : List Ent} : ∀ x y : D × Int, ((AV.tup [AV.dat x.1, AV.dat (D.int .i64 x.2)], G) : AV × List Ent) = (AV.tup [AV.dat y.1, AV.dat (D.int .i64 y.2)], G) → x = y := by
  rintro ⟨a, b⟩ ⟨a', b'⟩ h
  simp only [Prod.mk.injEq, AV.tup.injEq, List.cons.injEq, AV.dat.injEq, D.int.injEq, true_and, and_true] at h
  rw [h.1, h.2]

theorem inj13 {o1 : Ent} {X : Row} : ∀ x y : D × Int × Mode, ((AV.tup [AV.dat x.1, AV.dat (D.int .i64 x.2.1)], [o1, robj (AV.rowc x.2.2 4 X)]) : AV × List Ent) = (AV.tup [AV.dat y.1, AV.dat (D.int .i64 y.2.1)], [o1, robj (AV.rowc y.2.2 4 X)]) → x = y := by
  rintro ⟨a, b, c⟩ ⟨a', b', c'⟩ h
  simp only [robj, Prod.mk.injEq, AV.tup.injEq, List.cons.injEq, AV.dat.injEq, D.int.injEq, true_and, and_true, Ent.obj.injEq, AV.rowc.injEq] at h
  rw [h.1.1, h.1.2, h.2]

theorem inj14 {G : List Ent} : ∀ x y : Bool, ((AV.dat (D.bool x), G) : AV × List Ent) = (AV.dat (D.bool y), G) → x = y := by
  intro x y h
  simp only [Prod.mk.injEq, AV.dat.injEq, D.bool.injEq, and_true] at h
  exact h

theorem inj16 {G : List Ent} : ∀ x y : Int, ((AV.dat (D.int .i64 x), G) : AV × List Ent) = (AV.dat (D.int .i64 y), G) → x = y := by
  intro x y h
  simp only [Prod.mk.injEq, AV.dat.injEq, D.int.injEq, true_and, and_true] at h
  exact h

/-! ### what holds between rounds -/
structure InvT (X : Row) (cs : List Int) : Prop where
  seq : ∀ (j : Nat) (h : j < X.length), ∃ k n w, X[j] = evR ((j : Int) + 1) k n w
  len : cs.length = 16
  bnd : ∀ x ∈ cs, 0 ≤ x ∧ x ≤ X.length
  cnt : ∀ k : Int, 0 < k → k < 16 → cs.getD k.toNat 0 = cntK X k

theorem InvT.ev {X : Row} {cs : List Int} (h : InvT X cs) : ∀ r ∈ X, isEv r := by
  intro r hr
  obtain ⟨j, hj, rfl⟩ := List.getElem_of_mem hr
  obtain ⟨k, n, w, e⟩ := h.seq j hj
  exact ⟨_, k, n, w, e⟩

theorem InvT.add {X : Row} {cs : List Int} (h : InvT X cs) (k n w : Int) : InvT (X ++ [evR (X.length + 1) k n w]) (bump cs k) := by
  refine ⟨fun j hj => ?_, ?_, fun x hx => ?_, fun j h0 h1 => ?_⟩
  · rw [List.length_append, List.length_cons, List.length_nil] at hj
    by_cases hlt : j < X.length
    · obtain ⟨a, b, c, e⟩ := h.seq j hlt
      exact ⟨a, b, c, by rw [List.getElem_append_left hlt, e]⟩
    · obtain rfl : j = X.length := by omega
      exact ⟨k, n, w, by simp⟩
  · unfold bump
    split
    · rw [List.length_set]; exact h.len
    · exact h.len
  · rw [List.length_append, List.length_cons, List.length_nil]
    unfold bump at hx
    split at hx
    · rename_i hk
      have hkl : k.toNat < cs.length := by have := h.len; omega
      rcases List.mem_or_eq_of_mem_set hx with hx | hx
      · have := h.bnd x hx; omega
      · rw [List.getD_eq_getElem?_getD, List.getElem?_eq_getElem hkl] at hx
        have := h.bnd _ (List.getElem_mem hkl)
        simp only [Option.getD_some] at hx
        omega
    · have := h.bnd x hx; omega
  · rw [cntK_snoc]
    unfold bump
    have hl := h.len
    by_cases hk : 0 < k ∧ k < 16
    · rw [if_pos hk]
      by_cases he : k = j
      · subst he
        rw [if_pos rfl, List.getD_eq_getElem?_getD, List.getElem?_set_self (by omega), h.cnt k h0 h1]
        simp
      · rw [if_neg he, List.getD_eq_getElem?_getD, List.getElem?_set_ne (by omega), ← List.getD_eq_getElem?_getD, h.cnt j h0 h1]
        rfl
    · rw [if_neg hk, if_neg (by omega), h.cnt j h0 h1]
      rfl

theorem InvT.rises {X : Row} {cs : List Int} (h : InvT X cs) (n : Int) : rises (tellY X n) X.length := by
  unfold tellY
  split
  · rename_i hc
    intro j hj
    rw [List.length_drop] at hj
    obtain ⟨k, m, w, e⟩ := h.seq (n.toNat + j) (by omega)
    refine ⟨k, m, w, ?_⟩
    rw [List.getElem_drop, e, List.length_drop]
    congr 1
    omega
  · intro j hj
    simp at hj

theorem tellY_sub {X : Row} {n : Int} : ∀ r ∈ tellY X n, r ∈ X := by
  unfold tellY
  split
  · exact fun r hr => List.mem_of_mem_drop hr
  · intro r hr; cases hr

theorem tellY_len {X : Row} {n : Int} : (tellY X n).length ≤ X.length := by
  unfold tellY
  split
  · simp
  · simp

theorem InvT.of {X : Row} {cs : List Int} (h : InvT X cs) (k : Int) : (if 0 < k ∧ k < 16 then cs.getD k.toNat 0 else 0) = cntO X k := by
  unfold cntO
  split
  · rename_i hk
    exact h.cnt k hk.1 hk.2
  · rfl

theorem R14_run {K K' : LK} {s s' : Nat} {Y : Row} {G : List Ent} (hev : ∀ r ∈ Y, isEv r) (h1 : Y = [] ∨ s = 4) (h2 : Y = [] ∨ s' = 4) (hm : Y.length ≤ 900) : R14 [.dat (.list K s Y), .dat (.list K' s' Y)] G = some (.dat (.bool true), G) := f14_run hev h1 h2 hm

/-- a thing that is done -/
def actR (kd a nd wy n : Int) : List D := [.int .i64 kd, .int .i64 a, .int .i64 nd, .int .i64 wy, .int .i64 n]

end Go.Eng
