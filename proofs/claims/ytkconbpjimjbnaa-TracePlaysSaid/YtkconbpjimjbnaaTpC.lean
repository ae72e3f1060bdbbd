/- Trace: what the document's functions come to, and what is asked. -/
import Derived.Test.YtkconbpjimjbnaaTpB
namespace Go.Eng
open Go
set_option maxRecDepth 100000

theorem radd0_eq (k n w : Int) (o1 : Ent) : (radd0 k n w o1).ev =
  (some ((AV.dat (D.int IntKind.i64 (1 : Int))), [o1, (Ent.obj [(AV.rowc Mode.excl 4 [[(D.int IntKind.i64 (1 : Int)), (D.int IntKind.i64 k), (D.int IntKind.i64 n), (D.int IntKind.i64 w)]])])]))
  := by kernel_rfl

theorem radd1_eq (xs : Row) (k n w : Int) (o1 : Ent) : (radd1 xs k n w o1).ev =
  (rAsk ((decide ((0 + (List.length xs)) ≤ (List.length xs))) && (fits (TI.mk (TK.struct [(0, 2), (1, 3), (2, 3), (3, 30)]) 4 32 [(AV.dat (D.int IntKind.i64 (0 : Int))), (AV.dat (D.int IntKind.i64 (0 : Int))), (AV.dat (D.int IntKind.i64 (0 : Int))), (AV.dat (D.int IntKind.i64 (0 : Int)))] true) ((List.length xs) + 1)))
   (rAsk (true && (decide ((List.length xs) = (List.length xs))))
    (rAsk (wholeB false 0 ((List.length xs) + 1) (List.length (xs ++ [[(D.int IntKind.i64 (IntKind.wrap IntKind.i64 ((((List.length xs) : Nat) : Int) + (1 : Int)))), (D.int IntKind.i64 k), (D.int IntKind.i64 n), (D.int IntKind.i64 w)]])))
     (some ((AV.dat (D.int IntKind.i64 (IntKind.wrap IntKind.i64 ((((List.length xs) : Nat) : Int) + (1 : Int))))), [o1, (Ent.obj [(AV.rowc Mode.excl 4 (xs ++ [[(D.int IntKind.i64 (IntKind.wrap IntKind.i64 ((((List.length xs) : Nat) : Int) + (1 : Int)))), (D.int IntKind.i64 k), (D.int IntKind.i64 n), (D.int IntKind.i64 w)]]))])]))
     (some ((AV.dat (D.int IntKind.i64 (IntKind.wrap IntKind.i64 ((((List.length xs) : Nat) : Int) + (1 : Int))))), [o1, (Ent.obj [(AV.dat (D.list LK.any 4 (List.take ((List.length xs) + 1) (List.drop 0 (xs ++ [[(D.int IntKind.i64 (IntKind.wrap IntKind.i64 ((((List.length xs) : Nat) : Int) + (1 : Int)))), (D.int IntKind.i64 k), (D.int IntKind.i64 n), (D.int IntKind.i64 w)]])))))])]))
    )
    none
   )
   none
  )
  := by kernel_rfl

theorem radd2_eq (xs : Row) (k n w : Int) (o1 : Ent) : (radd2 xs k n w o1).ev =
  (rAsk ((decide ((0 + (List.length xs)) ≤ (List.length xs))) && (fits (TI.mk (TK.struct [(0, 2), (1, 3), (2, 3), (3, 30)]) 4 32 [(AV.dat (D.int IntKind.i64 (0 : Int))), (AV.dat (D.int IntKind.i64 (0 : Int))), (AV.dat (D.int IntKind.i64 (0 : Int))), (AV.dat (D.int IntKind.i64 (0 : Int)))] true) ((List.length xs) + 1)))
   (rAsk (true && (decide ((List.length xs) = (List.length xs))))
    (rAsk (wholeB false 0 ((List.length xs) + 1) (List.length (xs ++ [[(D.int IntKind.i64 (IntKind.wrap IntKind.i64 ((((List.length xs) : Nat) : Int) + (1 : Int)))), (D.int IntKind.i64 k), (D.int IntKind.i64 n), (D.int IntKind.i64 w)]])))
     (some ((AV.dat (D.int IntKind.i64 (IntKind.wrap IntKind.i64 ((((List.length xs) : Nat) : Int) + (1 : Int))))), [o1, (Ent.obj [(AV.rowc Mode.own 4 (xs ++ [[(D.int IntKind.i64 (IntKind.wrap IntKind.i64 ((((List.length xs) : Nat) : Int) + (1 : Int)))), (D.int IntKind.i64 k), (D.int IntKind.i64 n), (D.int IntKind.i64 w)]]))])]))
     (some ((AV.dat (D.int IntKind.i64 (IntKind.wrap IntKind.i64 ((((List.length xs) : Nat) : Int) + (1 : Int))))), [o1, (Ent.obj [(AV.dat (D.list LK.any 4 (List.take ((List.length xs) + 1) (List.drop 0 (xs ++ [[(D.int IntKind.i64 (IntKind.wrap IntKind.i64 ((((List.length xs) : Nat) : Int) + (1 : Int)))), (D.int IntKind.i64 k), (D.int IntKind.i64 n), (D.int IntKind.i64 w)]])))))])]))
    )
    none
   )
   none
  )
  := by kernel_rfl

theorem since0_eq (last : Int) (c : List D) (n : Int) (o2 : List Ent) : (since0 last c n o2).ev =
  (rAsk (decide (n < (0 : Int)))
   (some ((AV.tup [(AV.dat (D.list LK.nil 0 ([] : Row))), (AV.dat (D.int IntKind.i64 (2 : Int)))]), ((tobj (AV.dat (D.list LK.nil 0 ([] : Row))) last c) :: o2)))
   (rAsk (decide (n > last))
    (some ((AV.tup [(AV.dat (D.list LK.nil 0 ([] : Row))), (AV.dat (D.int IntKind.i64 (2 : Int)))]), ((tobj (AV.dat (D.list LK.nil 0 ([] : Row))) last c) :: o2)))
    (rAsk (decide (n < (IntKind.wrap IntKind.i64 (last - (0 : Int)))))
     (some ((AV.tup [(AV.dat (D.list LK.nil 0 ([] : Row))), (AV.dat (D.int IntKind.i64 (8 : Int)))]), ((tobj (AV.dat (D.list LK.nil 0 ([] : Row))) last c) :: o2)))
     (rAsk ((decide ((0 : Int) ≤ (IntKind.wrap IntKind.i64 (n - (IntKind.wrap IntKind.i64 (last - (0 : Int))))))) && ((decide ((IntKind.wrap IntKind.i64 (n - (IntKind.wrap IntKind.i64 (last - (0 : Int))))) ≤ (0 : Int))) && true))
      (rAsk (true && (fits (TI.mk (TK.struct [(0, 2), (1, 3), (2, 3), (3, 30)]) 4 32 [(AV.dat (D.int IntKind.i64 (0 : Int))), (AV.dat (D.int IntKind.i64 (0 : Int))), (AV.dat (D.int IntKind.i64 (0 : Int))), (AV.dat (D.int IntKind.i64 (0 : Int)))] true) (0 + (List.length (List.take (0 - (Int.toNat (IntKind.wrap IntKind.i64 (n - (IntKind.wrap IntKind.i64 (last - (0 : Int))))))) (List.drop (Int.toNat (IntKind.wrap IntKind.i64 (n - (IntKind.wrap IntKind.i64 (last - (0 : Int)))))) ([] : Row)))))))
       (rAsk (List.isEmpty (List.take (0 - (Int.toNat (IntKind.wrap IntKind.i64 (n - (IntKind.wrap IntKind.i64 (last - (0 : Int))))))) (List.drop (Int.toNat (IntKind.wrap IntKind.i64 (n - (IntKind.wrap IntKind.i64 (last - (0 : Int)))))) ([] : Row))))
        (some ((AV.tup [(AV.dat (D.list LK.full 4 ([] : Row))), (AV.dat (D.int IntKind.i64 (0 : Int)))]), ((tobj (AV.dat (D.list LK.nil 0 ([] : Row))) last c) :: o2)))
        (some ((AV.tup [(AV.dat (D.list LK.any 4 (List.take (0 + (List.length (List.take (0 - (Int.toNat (IntKind.wrap IntKind.i64 (n - (IntKind.wrap IntKind.i64 (last - (0 : Int))))))) (List.drop (Int.toNat (IntKind.wrap IntKind.i64 (n - (IntKind.wrap IntKind.i64 (last - (0 : Int)))))) ([] : Row))))) (List.drop 0 (([] : Row) ++ (List.take (0 - (Int.toNat (IntKind.wrap IntKind.i64 (n - (IntKind.wrap IntKind.i64 (last - (0 : Int))))))) (List.drop (Int.toNat (IntKind.wrap IntKind.i64 (n - (IntKind.wrap IntKind.i64 (last - (0 : Int)))))) ([] : Row)))))))), (AV.dat (D.int IntKind.i64 (0 : Int)))]), ((tobj (AV.dat (D.list LK.nil 0 ([] : Row))) last c) :: o2)))
       )
       none
      )
      none
     )
    )
   )
  )
  := by kernel_rfl

theorem since1_eq (xs : Row) (last : Int) (c : List D) (n : Int) (o2 : List Ent) : (since1 xs last c n o2).ev =
  (rAsk (decide (n < (0 : Int)))
   (some ((AV.tup [(AV.dat (D.list LK.nil 0 [])), (AV.dat (D.int IntKind.i64 (2 : Int)))]), ((tobj (AV.rowc Mode.excl 4 xs) last c) :: o2)))
   (rAsk (decide (n > last))
    (some ((AV.tup [(AV.dat (D.list LK.nil 0 [])), (AV.dat (D.int IntKind.i64 (2 : Int)))]), ((tobj (AV.rowc Mode.excl 4 xs) last c) :: o2)))
    (rAsk (decide (n < (IntKind.wrap IntKind.i64 (last - (((List.length xs) : Nat) : Int)))))
     (some ((AV.tup [(AV.dat (D.list LK.nil 0 [])), (AV.dat (D.int IntKind.i64 (8 : Int)))]), ((tobj (AV.rowc Mode.excl 4 xs) last c) :: o2)))
     (rAsk ((decide ((0 : Int) ≤ (IntKind.wrap IntKind.i64 (n - (IntKind.wrap IntKind.i64 (last - (((List.length xs) : Nat) : Int))))))) && ((decide ((IntKind.wrap IntKind.i64 (n - (IntKind.wrap IntKind.i64 (last - (((List.length xs) : Nat) : Int))))) ≤ (((List.length xs) : Nat) : Int))) && (decide ((((List.length xs) : Nat) : Int) ≤ (((List.length xs) : Nat) : Int)))))
      (rAsk (true && (fits (TI.mk (TK.struct [(0, 2), (1, 3), (2, 3), (3, 30)]) 4 32 [(AV.dat (D.int IntKind.i64 (0 : Int))), (AV.dat (D.int IntKind.i64 (0 : Int))), (AV.dat (D.int IntKind.i64 (0 : Int))), (AV.dat (D.int IntKind.i64 (0 : Int)))] true) (0 + (List.length (List.take ((Int.toNat (((List.length xs) : Nat) : Int)) - (Int.toNat (IntKind.wrap IntKind.i64 (n - (IntKind.wrap IntKind.i64 (last - (((List.length xs) : Nat) : Int))))))) (List.drop (0 + (Int.toNat (IntKind.wrap IntKind.i64 (n - (IntKind.wrap IntKind.i64 (last - (((List.length xs) : Nat) : Int))))))) xs))))))
       (rAsk (List.isEmpty (List.take ((Int.toNat (((List.length xs) : Nat) : Int)) - (Int.toNat (IntKind.wrap IntKind.i64 (n - (IntKind.wrap IntKind.i64 (last - (((List.length xs) : Nat) : Int))))))) (List.drop (0 + (Int.toNat (IntKind.wrap IntKind.i64 (n - (IntKind.wrap IntKind.i64 (last - (((List.length xs) : Nat) : Int))))))) xs)))
        (some ((AV.tup [(AV.dat (D.list LK.full 4 [])), (AV.dat (D.int IntKind.i64 (0 : Int)))]), ((tobj (AV.rowc Mode.excl 4 xs) last c) :: o2)))
        (some ((AV.tup [(AV.dat (D.list LK.any 4 (List.take (0 + (List.length (List.take ((Int.toNat (((List.length xs) : Nat) : Int)) - (Int.toNat (IntKind.wrap IntKind.i64 (n - (IntKind.wrap IntKind.i64 (last - (((List.length xs) : Nat) : Int))))))) (List.drop (0 + (Int.toNat (IntKind.wrap IntKind.i64 (n - (IntKind.wrap IntKind.i64 (last - (((List.length xs) : Nat) : Int))))))) xs)))) (List.drop 0 ([] ++ (List.take ((Int.toNat (((List.length xs) : Nat) : Int)) - (Int.toNat (IntKind.wrap IntKind.i64 (n - (IntKind.wrap IntKind.i64 (last - (((List.length xs) : Nat) : Int))))))) (List.drop (0 + (Int.toNat (IntKind.wrap IntKind.i64 (n - (IntKind.wrap IntKind.i64 (last - (((List.length xs) : Nat) : Int))))))) xs))))))), (AV.dat (D.int IntKind.i64 (0 : Int)))]), ((tobj (AV.rowc Mode.excl 4 xs) last c) :: o2)))
       )
       none
      )
      none
     )
    )
   )
  )
  := by kernel_rfl

theorem since2_eq (xs : Row) (last : Int) (c : List D) (n : Int) (o2 : List Ent) : (since2 xs last c n o2).ev =
  (rAsk (decide (n < (0 : Int)))
   (some ((AV.tup [(AV.dat (D.list LK.nil 0 [])), (AV.dat (D.int IntKind.i64 (2 : Int)))]), ((tobj (AV.dat (D.list LK.full 4 xs)) last c) :: o2)))
   (rAsk (decide (n > last))
    (some ((AV.tup [(AV.dat (D.list LK.nil 0 [])), (AV.dat (D.int IntKind.i64 (2 : Int)))]), ((tobj (AV.dat (D.list LK.full 4 xs)) last c) :: o2)))
    (rAsk (decide (n < (IntKind.wrap IntKind.i64 (last - (((List.length xs) : Nat) : Int)))))
     (some ((AV.tup [(AV.dat (D.list LK.nil 0 [])), (AV.dat (D.int IntKind.i64 (8 : Int)))]), ((tobj (AV.dat (D.list LK.full 4 xs)) last c) :: o2)))
     (rAsk ((decide ((0 : Int) ≤ (IntKind.wrap IntKind.i64 (n - (IntKind.wrap IntKind.i64 (last - (((List.length xs) : Nat) : Int))))))) && ((decide ((IntKind.wrap IntKind.i64 (n - (IntKind.wrap IntKind.i64 (last - (((List.length xs) : Nat) : Int))))) ≤ (((List.length xs) : Nat) : Int))) && (decide ((((List.length xs) : Nat) : Int) ≤ (((List.length xs) : Nat) : Int)))))
      (rAsk ((LK.isNil (if ((LK.full = LK.full) ∧ ((((List.length xs) : Nat) : Int) < (((List.length xs) : Nat) : Int))) then LK.any else LK.full)) || true)
       (rAsk (true && (fits (TI.mk (TK.struct [(0, 2), (1, 3), (2, 3), (3, 30)]) 4 32 [(AV.dat (D.int IntKind.i64 (0 : Int))), (AV.dat (D.int IntKind.i64 (0 : Int))), (AV.dat (D.int IntKind.i64 (0 : Int))), (AV.dat (D.int IntKind.i64 (0 : Int)))] true) (0 + (List.length (List.take ((Int.toNat (((List.length xs) : Nat) : Int)) - (Int.toNat (IntKind.wrap IntKind.i64 (n - (IntKind.wrap IntKind.i64 (last - (((List.length xs) : Nat) : Int))))))) (List.drop (Int.toNat (IntKind.wrap IntKind.i64 (n - (IntKind.wrap IntKind.i64 (last - (((List.length xs) : Nat) : Int)))))) xs))))))
        (rAsk (List.isEmpty (List.take ((Int.toNat (((List.length xs) : Nat) : Int)) - (Int.toNat (IntKind.wrap IntKind.i64 (n - (IntKind.wrap IntKind.i64 (last - (((List.length xs) : Nat) : Int))))))) (List.drop (Int.toNat (IntKind.wrap IntKind.i64 (n - (IntKind.wrap IntKind.i64 (last - (((List.length xs) : Nat) : Int)))))) xs)))
         (some ((AV.tup [(AV.dat (D.list LK.full 4 [])), (AV.dat (D.int IntKind.i64 (0 : Int)))]), ((tobj (AV.dat (D.list LK.full 4 xs)) last c) :: o2)))
         (some ((AV.tup [(AV.dat (D.list LK.any 4 (List.take (0 + (List.length (List.take ((Int.toNat (((List.length xs) : Nat) : Int)) - (Int.toNat (IntKind.wrap IntKind.i64 (n - (IntKind.wrap IntKind.i64 (last - (((List.length xs) : Nat) : Int))))))) (List.drop (Int.toNat (IntKind.wrap IntKind.i64 (n - (IntKind.wrap IntKind.i64 (last - (((List.length xs) : Nat) : Int)))))) xs)))) (List.drop 0 ([] ++ (List.take ((Int.toNat (((List.length xs) : Nat) : Int)) - (Int.toNat (IntKind.wrap IntKind.i64 (n - (IntKind.wrap IntKind.i64 (last - (((List.length xs) : Nat) : Int))))))) (List.drop (Int.toNat (IntKind.wrap IntKind.i64 (n - (IntKind.wrap IntKind.i64 (last - (((List.length xs) : Nat) : Int)))))) xs))))))), (AV.dat (D.int IntKind.i64 (0 : Int)))]), ((tobj (AV.dat (D.list LK.full 4 xs)) last c) :: o2)))
        )
        none
       )
       none
      )
      none
     )
    )
   )
  )
  := by kernel_rfl

theorem rsince0_eq (n : Int) (o1 : Ent) : (rsince0 n o1).ev =
  (rAsk (decide (n < (0 : Int)))
   (some ((AV.tup [(AV.dat (D.list LK.nil 0 ([] : Row))), (AV.dat (D.int IntKind.i64 (2 : Int)))]), [o1, (robj (AV.dat (D.list LK.nil 0 ([] : Row))))]))
   (rAsk (decide (n > (0 : Int)))
    (some ((AV.tup [(AV.dat (D.list LK.nil 0 ([] : Row))), (AV.dat (D.int IntKind.i64 (2 : Int)))]), [o1, (robj (AV.dat (D.list LK.nil 0 ([] : Row))))]))
    (rAsk (decide ((IntKind.wrap IntKind.i64 ((0 : Int) - n)) > (40 : Int)))
     (some ((AV.tup [(AV.dat (D.list LK.nil 0 ([] : Row))), (AV.dat (D.int IntKind.i64 (8 : Int)))]), [o1, (robj (AV.dat (D.list LK.nil 0 ([] : Row))))]))
     (rAsk ((decide ((0 : Int) ≤ n)) && ((decide (n ≤ (0 : Int))) && true))
      (some ((AV.tup [(AV.dat (D.list LK.nil 0 (List.take (0 - (Int.toNat n)) (List.drop (Int.toNat n) ([] : Row))))), (AV.dat (D.int IntKind.i64 (0 : Int)))]), [o1, (robj (AV.dat (D.list LK.nil 0 ([] : Row))))]))
      none
     )
    )
   )
  )
  := by kernel_rfl

theorem rsince1_eq (xs : Row) (n : Int) (o1 : Ent) : (rsince1 xs n o1).ev =
  (rAsk (decide (n < (0 : Int)))
   (some ((AV.tup [(AV.dat (D.list LK.nil 0 [])), (AV.dat (D.int IntKind.i64 (2 : Int)))]), [o1, (robj (AV.rowc Mode.excl 4 xs))]))
   (rAsk (decide (n > (((List.length xs) : Nat) : Int)))
    (some ((AV.tup [(AV.dat (D.list LK.nil 0 [])), (AV.dat (D.int IntKind.i64 (2 : Int)))]), [o1, (robj (AV.rowc Mode.excl 4 xs))]))
    (rAsk (decide ((IntKind.wrap IntKind.i64 ((((List.length xs) : Nat) : Int) - n)) > (40 : Int)))
     (some ((AV.tup [(AV.dat (D.list LK.nil 0 [])), (AV.dat (D.int IntKind.i64 (8 : Int)))]), [o1, (robj (AV.rowc Mode.excl 4 xs))]))
     (rAsk ((decide ((0 : Int) ≤ n)) && ((decide (n ≤ (((List.length xs) : Nat) : Int))) && (decide ((((List.length xs) : Nat) : Int) ≤ (((List.length xs) : Nat) : Int)))))
      (some ((AV.tup [(AV.dat (D.list LK.any 4 (List.take ((Int.toNat (((List.length xs) : Nat) : Int)) - (Int.toNat n)) (List.drop (0 + (Int.toNat n)) xs)))), (AV.dat (D.int IntKind.i64 (0 : Int)))]), [o1, (Ent.obj [(AV.rowc Mode.own 4 xs)])]))
      none
     )
    )
   )
  )
  := by kernel_rfl

theorem rsince2_eq (xs : Row) (n : Int) (o1 : Ent) : (rsince2 xs n o1).ev =
  (rAsk (decide (n < (0 : Int)))
   (some ((AV.tup [(AV.dat (D.list LK.nil 0 [])), (AV.dat (D.int IntKind.i64 (2 : Int)))]), [o1, (robj (AV.rowc Mode.own 4 xs))]))
   (rAsk (decide (n > (((List.length xs) : Nat) : Int)))
    (some ((AV.tup [(AV.dat (D.list LK.nil 0 [])), (AV.dat (D.int IntKind.i64 (2 : Int)))]), [o1, (robj (AV.rowc Mode.own 4 xs))]))
    (rAsk (decide ((IntKind.wrap IntKind.i64 ((((List.length xs) : Nat) : Int) - n)) > (40 : Int)))
     (some ((AV.tup [(AV.dat (D.list LK.nil 0 [])), (AV.dat (D.int IntKind.i64 (8 : Int)))]), [o1, (robj (AV.rowc Mode.own 4 xs))]))
     (rAsk ((decide ((0 : Int) ≤ n)) && ((decide (n ≤ (((List.length xs) : Nat) : Int))) && (decide ((((List.length xs) : Nat) : Int) ≤ (((List.length xs) : Nat) : Int)))))
      (some ((AV.tup [(AV.dat (D.list LK.any 4 (List.take ((Int.toNat (((List.length xs) : Nat) : Int)) - (Int.toNat n)) (List.drop (0 + (Int.toNat n)) xs)))), (AV.dat (D.int IntKind.i64 (0 : Int)))]), [o1, (robj (AV.rowc Mode.own 4 xs))]))
      none
     )
    )
   )
  )
  := by kernel_rfl

theorem of0_eq (kc : AV) (last : Int) (c : List D) (k : Int) (o2 : List Ent) : (of0 kc last c k o2).ev =
  (rAsk (decide (k > (0 : Int)))
   (rAsk (!(decide (k < (16 : Int))))
    (some ((AV.dat (D.int IntKind.i64 (0 : Int))), ((tobj kc last c) :: o2)))
    (rAsk ((decide ((0 : Int) ≤ k)) && (decide (k < (16 : Int))))
     (rGet (cellD (kc :: (AV.dat (D.int IntKind.i64 last)) :: (List.map AV.dat c)) (((Int.toNat k) * 1) + 2)) fun x1 =>
      (some ((AV.dat x1), ((tobj kc last c) :: o2)))
     )
     none
    )
   )
   (some ((AV.dat (D.int IntKind.i64 (0 : Int))), ((tobj kc last c) :: o2)))
  )
  := by kernel_rfl

theorem radd0_run {k n w : Int} {o1 : Ent} : (radd0 k n w o1).run = some (i64 1, [o1, robj (rowA .excl [evR 1 k n w])]) := by
  rw [← Tr.ev_run, radd0_eq]
  rfl

theorem radd1_run {xs : Row} {k n w : Int} {o1 : Ent} (hx : xs.length ≤ 900) : (radd1 xs k n w o1).run = some (i64 (xs.length + 1), [o1, robj (rowA .excl (xs ++ [evR (xs.length + 1) k n w]))]) := by
  rw [← Tr.ev_run, radd1_eq]
  have w1 : IntKind.wrap .i64 ((xs.length : Int) + 1) = (xs.length : Int) + 1 := wrapI (by omega)
  simp only [w1, le_self, fits32 (show xs.length + 1 ≤ 1000 by omega), whole_snoc, decide_true, Bool.and_self, rAsk]
  rfl

theorem radd2_run {xs : Row} {k n w : Int} {o1 : Ent} (hx : xs.length ≤ 900) : (radd2 xs k n w o1).run = some (i64 (xs.length + 1), [o1, robj (rowA .own (xs ++ [evR (xs.length + 1) k n w]))]) := by
  rw [← Tr.ev_run, radd2_eq]
  have w1 : IntKind.wrap .i64 ((xs.length : Int) + 1) = (xs.length : Int) + 1 := wrapI (by omega)
  simp only [w1, le_self, fits32 (show xs.length + 1 ≤ 1000 by omega), whole_snoc, decide_true, Bool.and_self, rAsk]
  rfl

/-- what is told, and how it ends -/
def tellY (X : Row) (n : Int) : Row := if 0 ≤ n ∧ n ≤ X.length ∧ X.length - n ≤ 40 then X.drop n.toNat else []
def tellE (X : Row) (n : Int) : Int := if n < 0 ∨ n > X.length then 2 else if X.length - n > 40 then 8 else 0

theorem since_tail {xs : Row} {q : Nat} : List.take (0 + (xs.drop q).length) (List.drop 0 (([] : Row) ++ xs.drop q)) = xs.drop q := by
  rw [List.nil_append, List.drop_zero, Nat.zero_add, List.take_length]

theorem since1_run {X : Row} {c : List D} {n : Int} {o2 : List Ent} (hx : X.length ≤ 40) : ∃ K s, (since1 X X.length c n o2).run = some (.tup [.dat (.list K s (tellY X n)), i64 (tellE X n)], tobj (rowA .excl X) X.length c :: o2) ∧ (tellY X n = [] ∨ s = 4) := by
  rw [← Tr.ev_run, since1_eq]
  have w0 : (X.length : Int) - (X.length : Int) = 0 := by omega
  have w1 : IntKind.wrap .i64 (0 : Int) = 0 := rfl
  by_cases h0 : n < 0
  · refine ⟨.nil, 0, ?_, .inl ?_⟩
    · have e1 : tellY X n = [] := by unfold tellY; rw [if_neg (by omega)]
      have e2 : tellE X n = 2 := by unfold tellE; rw [if_pos (by omega)]
      rw [e1, e2]
      simp only [decide_eq_true h0, rAsk]
      rfl
    · unfold tellY; rw [if_neg (by omega)]
  · by_cases h1 : n > X.length
    · refine ⟨.nil, 0, ?_, .inl ?_⟩
      · have e1 : tellY X n = [] := by unfold tellY; rw [if_neg (by omega)]
        have e2 : tellE X n = 2 := by unfold tellE; rw [if_pos (by omega)]
        rw [e1, e2]
        simp only [decide_eq_false h0, decide_eq_true h1, rAsk]
        rfl
      · unfold tellY; rw [if_neg (by omega)]
    · have e1 : tellY X n = X.drop n.toNat := by unfold tellY; rw [if_pos (by omega)]
      have e2 : tellE X n = 0 := by unfold tellE; rw [if_neg (by omega), if_neg (by omega)]
      have w2 : IntKind.wrap .i64 (n - 0) = n := by rw [Int.sub_zero]; exact wrapI (by omega)
      have t1 : List.take (X.length - n.toNat) (List.drop (0 + n.toNat) X) = X.drop n.toNat := by rw [Nat.zero_add, List.take_of_length_le (by simp)]
      have f1 : fits (TI.mk (TK.struct [(0, 2), (1, 3), (2, 3), (3, 30)]) 4 32 [(AV.dat (D.int IntKind.i64 (0 : Int))), (AV.dat (D.int IntKind.i64 (0 : Int))), (AV.dat (D.int IntKind.i64 (0 : Int))), (AV.dat (D.int IntKind.i64 (0 : Int)))] true) (0 + (X.drop n.toNat).length) = true := fits32 (by simp; omega)
      rw [e1, e2]
      simp only [decide_eq_false h0, decide_eq_false h1, w0, w1, w2, Int.toNat_natCast, t1, f1, since_tail, decide_eq_true (show (0 : Int) ≤ n by omega), decide_eq_true (show n ≤ (X.length : Int) by omega), Int.le_refl, decide_true, Bool.and_self, rAsk]
      cases hd : X.drop n.toNat with
      | nil => exact ⟨.full, 4, rfl, .inl rfl⟩
      | cons a r => exact ⟨.any, 4, rfl, .inr rfl⟩

theorem since0_run {c : List D} {n : Int} {o2 : List Ent} : ∃ K s, (since0 0 c n o2).run = some (.tup [.dat (.list K s (tellY [] n)), i64 (tellE [] n)], tobj nilA 0 c :: o2) ∧ (tellY [] n = [] ∨ s = 4) := by
  have hY : tellY [] n = [] := by unfold tellY; split <;> simp
  rw [← Tr.ev_run, since0_eq, hY]
  by_cases h0 : n < 0
  · refine ⟨.nil, 0, ?_, .inl rfl⟩
    have e2 : tellE [] n = 2 := by unfold tellE; rw [if_pos (by omega)]
    rw [e2]
    simp only [decide_eq_true h0, rAsk]
    rfl
  · by_cases h1 : n > 0
    · refine ⟨.nil, 0, ?_, .inl rfl⟩
      have e2 : tellE [] n = 2 := by unfold tellE; rw [if_pos (by simp; omega)]
      rw [e2]
      simp only [decide_eq_false h0, decide_eq_true h1, rAsk]
      rfl
    · obtain rfl : n = 0 := by omega
      exact ⟨.full, 4, rfl, .inl rfl⟩

theorem since2_run {X : Row} {c : List D} {n : Int} {o2 : List Ent} (hx : 40 < X.length) (hx2 : X.length ≤ 900) : ∃ K s, (since2 (lastR X) X.length c n o2).run = some (.tup [.dat (.list K s (tellY X n)), i64 (tellE X n)], tobj (fulA (lastR X)) X.length c :: o2) ∧ (tellY X n = [] ∨ s = 4) := by
  rw [← Tr.ev_run, since2_eq]
  have hL : (lastR X).length = 40 := by unfold lastR; simp; omega
  have w0 : IntKind.wrap .i64 ((X.length : Int) - (((lastR X).length : Nat) : Int)) = (X.length : Int) - 40 := by rw [hL]; exact wrapI (by omega)
  by_cases h0 : n < 0
  · refine ⟨.nil, 0, ?_, .inl ?_⟩
    · have e1 : tellY X n = [] := by unfold tellY; rw [if_neg (by omega)]
      have e2 : tellE X n = 2 := by unfold tellE; rw [if_pos (by omega)]
      rw [e1, e2]
      simp only [decide_eq_true h0, rAsk]
      rfl
    · unfold tellY; rw [if_neg (by omega)]
  · by_cases h1 : n > X.length
    · refine ⟨.nil, 0, ?_, .inl ?_⟩
      · have e1 : tellY X n = [] := by unfold tellY; rw [if_neg (by omega)]
        have e2 : tellE X n = 2 := by unfold tellE; rw [if_pos (by omega)]
        rw [e1, e2]
        simp only [decide_eq_false h0, decide_eq_true h1, rAsk]
        rfl
      · unfold tellY; rw [if_neg (by omega)]
    · by_cases h2 : n < (X.length : Int) - 40
      · refine ⟨.nil, 0, ?_, .inl ?_⟩
        · have e1 : tellY X n = [] := by unfold tellY; rw [if_neg (by omega)]
          have e2 : tellE X n = 8 := by unfold tellE; rw [if_neg (by omega), if_pos (by omega)]
          rw [e1, e2]
          simp only [decide_eq_false h0, decide_eq_false h1, w0, decide_eq_true h2, rAsk]
          rfl
        · unfold tellY; rw [if_neg (by omega)]
      · have e1 : tellY X n = X.drop n.toNat := by unfold tellY; rw [if_pos (by omega)]
        have e2 : tellE X n = 0 := by unfold tellE; rw [if_neg (by omega), if_neg (by omega)]
        have w2 : IntKind.wrap .i64 (n - ((X.length : Int) - 40)) = n - ((X.length : Int) - 40) := wrapI (by omega)
        have t1 : List.take ((lastR X).length - (n - ((X.length : Int) - 40)).toNat) (List.drop (n - ((X.length : Int) - 40)).toNat (lastR X)) = X.drop n.toNat := by
          rw [List.take_of_length_le (by simp)]
          unfold lastR
          rw [List.drop_drop]
          congr 1
          omega
        have f1 : fits (TI.mk (TK.struct [(0, 2), (1, 3), (2, 3), (3, 30)]) 4 32 [(AV.dat (D.int IntKind.i64 (0 : Int))), (AV.dat (D.int IntKind.i64 (0 : Int))), (AV.dat (D.int IntKind.i64 (0 : Int))), (AV.dat (D.int IntKind.i64 (0 : Int)))] true) (0 + (X.drop n.toNat).length) = true := fits32 (by simp; omega)
        rw [e1, e2]
        simp only [decide_eq_false h0, decide_eq_false h1, w0, decide_eq_false h2, w2, Int.toNat_natCast, t1, f1, since_tail, decide_eq_true (show (0 : Int) ≤ n - ((X.length : Int) - 40) by omega), decide_eq_true (show n - ((X.length : Int) - 40) ≤ (((lastR X).length : Nat) : Int) by rw [hL]; omega), Int.le_refl, decide_true, Bool.and_self, Bool.or_true, rAsk]
        cases hd : X.drop n.toNat with
        | nil => exact ⟨.full, 4, rfl, .inl rfl⟩
        | cons a r => exact ⟨.any, 4, rfl, .inr rfl⟩

theorem rsince0_run {n : Int} {o1 : Ent} : (rsince0 n o1).run = some (.tup [.dat (.list .nil 0 (tellY [] n)), i64 (tellE [] n)], [o1, robj nilA]) := by
  have hY : tellY [] n = [] := by unfold tellY; split <;> simp
  rw [← Tr.ev_run, rsince0_eq, hY]
  by_cases h0 : n < 0
  · have e2 : tellE [] n = 2 := by unfold tellE; rw [if_pos (by omega)]
    rw [e2]
    simp only [decide_eq_true h0, rAsk]
    rfl
  · by_cases h1 : n > 0
    · have e2 : tellE [] n = 2 := by unfold tellE; rw [if_pos (by simp; omega)]
      rw [e2]
      simp only [decide_eq_false h0, decide_eq_true h1, rAsk]
      rfl
    · obtain rfl : n = 0 := by omega
      rfl

theorem rsince1_run {X : Row} {n : Int} {o1 : Ent} (hx : X.length ≤ 900) : ∃ K s md, md ≠ .ro ∧ (rsince1 X n o1).run = some (.tup [.dat (.list K s (tellY X n)), i64 (tellE X n)], [o1, robj (rowA md X)]) ∧ (tellY X n = [] ∨ s = 4) := by
  rw [← Tr.ev_run, rsince1_eq]
  by_cases h0 : n < 0
  · have e1 : tellY X n = [] := by unfold tellY; rw [if_neg (by omega)]
    have e2 : tellE X n = 2 := by unfold tellE; rw [if_pos (by omega)]
    refine ⟨.nil, 0, .excl, by simp, ?_, .inl e1⟩
    rw [e1, e2]
    simp only [decide_eq_true h0, rAsk]
    rfl
  · by_cases h1 : n > X.length
    · have e1 : tellY X n = [] := by unfold tellY; rw [if_neg (by omega)]
      have e2 : tellE X n = 2 := by unfold tellE; rw [if_pos (by omega)]
      refine ⟨.nil, 0, .excl, by simp, ?_, .inl e1⟩
      rw [e1, e2]
      simp only [decide_eq_false h0, decide_eq_true h1, rAsk]
      rfl
    · have w0 : IntKind.wrap .i64 ((X.length : Int) - n) = (X.length : Int) - n := wrapI (by omega)
      by_cases h2 : (X.length : Int) - n > 40
      · have e1 : tellY X n = [] := by unfold tellY; rw [if_neg (by omega)]
        have e2 : tellE X n = 8 := by unfold tellE; rw [if_neg (by omega), if_pos (by omega)]
        refine ⟨.nil, 0, .excl, by simp, ?_, .inl e1⟩
        rw [e1, e2]
        simp only [decide_eq_false h0, decide_eq_false h1, w0, decide_eq_true h2, rAsk]
        rfl
      · have e1 : tellY X n = X.drop n.toNat := by unfold tellY; rw [if_pos (by omega)]
        have e2 : tellE X n = 0 := by unfold tellE; rw [if_neg (by omega), if_neg (by omega)]
        have t1 : List.take (X.length - n.toNat) (List.drop (0 + n.toNat) X) = X.drop n.toNat := by rw [Nat.zero_add, List.take_of_length_le (by simp)]
        refine ⟨.any, 4, .own, by simp, ?_, .inr rfl⟩
        rw [e1, e2]
        simp only [decide_eq_false h0, decide_eq_false h1, w0, decide_eq_false h2, Int.toNat_natCast, t1, decide_eq_true (show (0 : Int) ≤ n by omega), decide_eq_true (show n ≤ (X.length : Int) by omega), Int.le_refl, decide_true, Bool.and_self, rAsk]
        rfl

theorem rsince2_run {X : Row} {n : Int} {o1 : Ent} (hx : X.length ≤ 900) : ∃ K s md, md ≠ .ro ∧ (rsince2 X n o1).run = some (.tup [.dat (.list K s (tellY X n)), i64 (tellE X n)], [o1, robj (rowA md X)]) ∧ (tellY X n = [] ∨ s = 4) := by
  rw [← Tr.ev_run, rsince2_eq]
  by_cases h0 : n < 0
  · have e1 : tellY X n = [] := by unfold tellY; rw [if_neg (by omega)]
    have e2 : tellE X n = 2 := by unfold tellE; rw [if_pos (by omega)]
    refine ⟨.nil, 0, .own, by simp, ?_, .inl e1⟩
    rw [e1, e2]
    simp only [decide_eq_true h0, rAsk]
    rfl
  · by_cases h1 : n > X.length
    · have e1 : tellY X n = [] := by unfold tellY; rw [if_neg (by omega)]
      have e2 : tellE X n = 2 := by unfold tellE; rw [if_pos (by omega)]
      refine ⟨.nil, 0, .own, by simp, ?_, .inl e1⟩
      rw [e1, e2]
      simp only [decide_eq_false h0, decide_eq_true h1, rAsk]
      rfl
    · have w0 : IntKind.wrap .i64 ((X.length : Int) - n) = (X.length : Int) - n := wrapI (by omega)
      by_cases h2 : (X.length : Int) - n > 40
      · have e1 : tellY X n = [] := by unfold tellY; rw [if_neg (by omega)]
        have e2 : tellE X n = 8 := by unfold tellE; rw [if_neg (by omega), if_pos (by omega)]
        refine ⟨.nil, 0, .own, by simp, ?_, .inl e1⟩
        rw [e1, e2]
        simp only [decide_eq_false h0, decide_eq_false h1, w0, decide_eq_true h2, rAsk]
        rfl
      · have e1 : tellY X n = X.drop n.toNat := by unfold tellY; rw [if_pos (by omega)]
        have e2 : tellE X n = 0 := by unfold tellE; rw [if_neg (by omega), if_neg (by omega)]
        have t1 : List.take (X.length - n.toNat) (List.drop (0 + n.toNat) X) = X.drop n.toNat := by rw [Nat.zero_add, List.take_of_length_le (by simp)]
        refine ⟨.any, 4, .own, by simp, ?_, .inr rfl⟩
        rw [e1, e2]
        simp only [decide_eq_false h0, decide_eq_false h1, w0, decide_eq_false h2, Int.toNat_natCast, t1, decide_eq_true (show (0 : Int) ≤ n by omega), decide_eq_true (show n ≤ (X.length : Int) by omega), Int.le_refl, decide_true, Bool.and_self, rAsk]
        rfl

/-- how many of a kind, as the program tells it -/
theorem of0_run {kc : AV} {last : Int} {cs : List Int} {k : Int} {o2 : List Ent} (hl : cs.length = 16) :
    (of0 kc last (cR cs) k o2).run = some (i64 (if 0 < k ∧ k < 16 then cs.getD k.toNat 0 else 0), tobj kc last (cR cs) :: o2) := by
  rw [← Tr.ev_run, of0_eq]
  by_cases h0 : 0 < k
  · by_cases h1 : k < 16
    · simp only [decide_eq_true h0, decide_eq_true h1, decide_eq_true (show (0 : Int) ≤ k by omega), Bool.not_true, Bool.and_self, rAsk, cell_cnt hl h0 h1, rGet]
      rw [if_pos ⟨h0, h1⟩]
      rfl
    · simp only [decide_eq_true h0, decide_eq_false h1, Bool.not_false, rAsk]
      rw [if_neg fun h => h1 h.2]
      rfl
  · simp only [decide_eq_false h0, rAsk]
    rw [if_neg fun h => h0 h.1]
    rfl

end Go.Eng
