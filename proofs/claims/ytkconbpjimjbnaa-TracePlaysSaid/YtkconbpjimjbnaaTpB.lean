/- Trace: what the program's functions come to. -/
import Derived.Test.YtkconbpjimjbnaaTpA
import Derived.IntWalk
namespace Go.Eng
open Go
set_option maxRecDepth 100000

theorem add0_eq (last : Int) (c : List D) (k n w : Int) (o2 : List Ent) : (add0 last c k n w o2).ev =
  (rAsk (decide (k > (0 : Int)))
   (rAsk (decide (k < (16 : Int)))
    (rAsk ((decide ((0 : Int) ≤ k)) && (decide (k < (16 : Int))))
     (rGet (cellD ((AV.dat (D.list LK.nil 0 [])) :: (AV.dat (D.int IntKind.i64 (IntKind.wrap IntKind.i64 (last + (1 : Int))))) :: (List.map AV.dat c)) (((Int.toNat k) * 1) + 2)) fun x1 =>
      (rGet (D.int? IntKind.i64 x1) fun x2 =>
       (rAsk ((decide ((0 : Int) ≤ k)) && (decide (k < (16 : Int))))
        (rAsk ((decide (((((Int.toNat k) * 1) + 2) + 1) ≤ (List.length ((AV.dat (D.list LK.nil 0 [])) :: (AV.dat (D.int IntKind.i64 (IntKind.wrap IntKind.i64 (last + (1 : Int))))) :: (List.map AV.dat c))))) && true)
         (some ((AV.dat (D.int IntKind.i64 (IntKind.wrap IntKind.i64 (last + (1 : Int))))), ((Ent.obj ((AV.rowc Mode.excl 4 [[(D.int IntKind.i64 (IntKind.wrap IntKind.i64 (last + (1 : Int)))), (D.int IntKind.i64 k), (D.int IntKind.i64 n), (D.int IntKind.i64 w)]]) :: (AV.dat (D.int IntKind.i64 (IntKind.wrap IntKind.i64 (last + (1 : Int))))) :: (List.set (List.map AV.dat c) ((Int.toNat k) * 1) (AV.dat (D.int IntKind.i64 (IntKind.wrap IntKind.i64 (x2 + (1 : Int)))))))) :: o2)))
         none
        )
        none
       )
      )
     )
     none
    )
    (some ((AV.dat (D.int IntKind.i64 (IntKind.wrap IntKind.i64 (last + (1 : Int))))), ((Ent.obj ((AV.rowc Mode.excl 4 [[(D.int IntKind.i64 (IntKind.wrap IntKind.i64 (last + (1 : Int)))), (D.int IntKind.i64 k), (D.int IntKind.i64 n), (D.int IntKind.i64 w)]]) :: (AV.dat (D.int IntKind.i64 (IntKind.wrap IntKind.i64 (last + (1 : Int))))) :: (List.map AV.dat c))) :: o2)))
   )
   (some ((AV.dat (D.int IntKind.i64 (IntKind.wrap IntKind.i64 (last + (1 : Int))))), ((Ent.obj ((AV.rowc Mode.excl 4 [[(D.int IntKind.i64 (IntKind.wrap IntKind.i64 (last + (1 : Int)))), (D.int IntKind.i64 k), (D.int IntKind.i64 n), (D.int IntKind.i64 w)]]) :: (AV.dat (D.int IntKind.i64 (IntKind.wrap IntKind.i64 (last + (1 : Int))))) :: (List.map AV.dat c))) :: o2)))
  )
  := by kernel_rfl

theorem add1_eq (xs : Row) (last : Int) (c : List D) (k n w : Int) (o2 : List Ent) : (add1 xs last c k n w o2).ev =
  (rAsk (decide (k > (0 : Int)))
   (rAsk (decide (k < (16 : Int)))
    (rAsk ((decide ((0 : Int) ≤ k)) && (decide (k < (16 : Int))))
     (rGet (cellD ((AV.rowc Mode.excl 4 xs) :: (AV.dat (D.int IntKind.i64 (IntKind.wrap IntKind.i64 (last + (1 : Int))))) :: (List.map AV.dat c)) (((Int.toNat k) * 1) + 2)) fun x1 =>
      (rGet (D.int? IntKind.i64 x1) fun x2 =>
       (rAsk ((decide ((0 : Int) ≤ k)) && (decide (k < (16 : Int))))
        (rAsk ((decide (((((Int.toNat k) * 1) + 2) + 1) ≤ (List.length ((AV.rowc Mode.excl 4 xs) :: (AV.dat (D.int IntKind.i64 (IntKind.wrap IntKind.i64 (last + (1 : Int))))) :: (List.map AV.dat c))))) && true)
         (rAsk ((decide ((0 + (List.length xs)) ≤ (List.length xs))) && (fits (TI.mk (TK.struct [(0, 2), (1, 3), (2, 3), (3, 30)]) 4 32 [(AV.dat (D.int IntKind.i64 (0 : Int))), (AV.dat (D.int IntKind.i64 (0 : Int))), (AV.dat (D.int IntKind.i64 (0 : Int))), (AV.dat (D.int IntKind.i64 (0 : Int)))] true) ((List.length xs) + 1)))
          (rAsk (true && (decide ((List.length xs) = (List.length xs))))
           (rAsk (wholeB false 0 ((List.length xs) + 1) (List.length (xs ++ [[(D.int IntKind.i64 (IntKind.wrap IntKind.i64 (last + (1 : Int)))), (D.int IntKind.i64 k), (D.int IntKind.i64 n), (D.int IntKind.i64 w)]])))
            (rAsk (decide ((((List.length (xs ++ [[(D.int IntKind.i64 (IntKind.wrap IntKind.i64 (last + (1 : Int)))), (D.int IntKind.i64 k), (D.int IntKind.i64 n), (D.int IntKind.i64 w)]])) : Nat) : Int) > (40 : Int)))
             (rAsk ((decide ((0 : Int) ≤ (IntKind.wrap IntKind.i64 ((((List.length (xs ++ [[(D.int IntKind.i64 (IntKind.wrap IntKind.i64 (last + (1 : Int)))), (D.int IntKind.i64 k), (D.int IntKind.i64 n), (D.int IntKind.i64 w)]])) : Nat) : Int) - (40 : Int))))) && ((decide ((IntKind.wrap IntKind.i64 ((((List.length (xs ++ [[(D.int IntKind.i64 (IntKind.wrap IntKind.i64 (last + (1 : Int)))), (D.int IntKind.i64 k), (D.int IntKind.i64 n), (D.int IntKind.i64 w)]])) : Nat) : Int) - (40 : Int))) ≤ (((List.length (xs ++ [[(D.int IntKind.i64 (IntKind.wrap IntKind.i64 (last + (1 : Int)))), (D.int IntKind.i64 k), (D.int IntKind.i64 n), (D.int IntKind.i64 w)]])) : Nat) : Int))) && (decide ((((List.length (xs ++ [[(D.int IntKind.i64 (IntKind.wrap IntKind.i64 (last + (1 : Int)))), (D.int IntKind.i64 k), (D.int IntKind.i64 n), (D.int IntKind.i64 w)]])) : Nat) : Int) ≤ (((List.length (xs ++ [[(D.int IntKind.i64 (IntKind.wrap IntKind.i64 (last + (1 : Int)))), (D.int IntKind.i64 k), (D.int IntKind.i64 n), (D.int IntKind.i64 w)]])) : Nat) : Int)))))
              (rAsk ((decide ((((List.length (xs ++ [[(D.int IntKind.i64 (IntKind.wrap IntKind.i64 (last + (1 : Int)))), (D.int IntKind.i64 k), (D.int IntKind.i64 n), (D.int IntKind.i64 w)]])) : Nat) : Int) = (((List.length (xs ++ [[(D.int IntKind.i64 (IntKind.wrap IntKind.i64 (last + (1 : Int)))), (D.int IntKind.i64 k), (D.int IntKind.i64 n), (D.int IntKind.i64 w)]])) : Nat) : Int))) && true)
               (some ((AV.dat (D.int IntKind.i64 (IntKind.wrap IntKind.i64 (last + (1 : Int))))), ((Ent.obj ((AV.dat (D.list LK.full 4 (List.take ((Int.toNat (((List.length (xs ++ [[(D.int IntKind.i64 (IntKind.wrap IntKind.i64 (last + (1 : Int)))), (D.int IntKind.i64 k), (D.int IntKind.i64 n), (D.int IntKind.i64 w)]])) : Nat) : Int)) - (Int.toNat (IntKind.wrap IntKind.i64 ((((List.length (xs ++ [[(D.int IntKind.i64 (IntKind.wrap IntKind.i64 (last + (1 : Int)))), (D.int IntKind.i64 k), (D.int IntKind.i64 n), (D.int IntKind.i64 w)]])) : Nat) : Int) - (40 : Int))))) (List.drop (0 + (Int.toNat (IntKind.wrap IntKind.i64 ((((List.length (xs ++ [[(D.int IntKind.i64 (IntKind.wrap IntKind.i64 (last + (1 : Int)))), (D.int IntKind.i64 k), (D.int IntKind.i64 n), (D.int IntKind.i64 w)]])) : Nat) : Int) - (40 : Int))))) (xs ++ [[(D.int IntKind.i64 (IntKind.wrap IntKind.i64 (last + (1 : Int)))), (D.int IntKind.i64 k), (D.int IntKind.i64 n), (D.int IntKind.i64 w)]]))))) :: (AV.dat (D.int IntKind.i64 (IntKind.wrap IntKind.i64 (last + (1 : Int))))) :: (List.set (List.map AV.dat c) ((Int.toNat k) * 1) (AV.dat (D.int IntKind.i64 (IntKind.wrap IntKind.i64 (x2 + (1 : Int)))))))) :: o2)))
               none
              )
              none
             )
             (some ((AV.dat (D.int IntKind.i64 (IntKind.wrap IntKind.i64 (last + (1 : Int))))), ((Ent.obj ((AV.rowc Mode.excl 4 (xs ++ [[(D.int IntKind.i64 (IntKind.wrap IntKind.i64 (last + (1 : Int)))), (D.int IntKind.i64 k), (D.int IntKind.i64 n), (D.int IntKind.i64 w)]])) :: (AV.dat (D.int IntKind.i64 (IntKind.wrap IntKind.i64 (last + (1 : Int))))) :: (List.set (List.map AV.dat c) ((Int.toNat k) * 1) (AV.dat (D.int IntKind.i64 (IntKind.wrap IntKind.i64 (x2 + (1 : Int)))))))) :: o2)))
            )
            (rAsk (decide ((((List.length (List.take ((List.length xs) + 1) (List.drop 0 (xs ++ [[(D.int IntKind.i64 (IntKind.wrap IntKind.i64 (last + (1 : Int)))), (D.int IntKind.i64 k), (D.int IntKind.i64 n), (D.int IntKind.i64 w)]])))) : Nat) : Int) > (40 : Int)))
             (rAsk ((decide ((0 : Int) ≤ (IntKind.wrap IntKind.i64 ((((List.length (List.take ((List.length xs) + 1) (List.drop 0 (xs ++ [[(D.int IntKind.i64 (IntKind.wrap IntKind.i64 (last + (1 : Int)))), (D.int IntKind.i64 k), (D.int IntKind.i64 n), (D.int IntKind.i64 w)]])))) : Nat) : Int) - (40 : Int))))) && ((decide ((IntKind.wrap IntKind.i64 ((((List.length (List.take ((List.length xs) + 1) (List.drop 0 (xs ++ [[(D.int IntKind.i64 (IntKind.wrap IntKind.i64 (last + (1 : Int)))), (D.int IntKind.i64 k), (D.int IntKind.i64 n), (D.int IntKind.i64 w)]])))) : Nat) : Int) - (40 : Int))) ≤ (((List.length (List.take ((List.length xs) + 1) (List.drop 0 (xs ++ [[(D.int IntKind.i64 (IntKind.wrap IntKind.i64 (last + (1 : Int)))), (D.int IntKind.i64 k), (D.int IntKind.i64 n), (D.int IntKind.i64 w)]])))) : Nat) : Int))) && (decide ((((List.length (List.take ((List.length xs) + 1) (List.drop 0 (xs ++ [[(D.int IntKind.i64 (IntKind.wrap IntKind.i64 (last + (1 : Int)))), (D.int IntKind.i64 k), (D.int IntKind.i64 n), (D.int IntKind.i64 w)]])))) : Nat) : Int) ≤ (((List.length (List.take ((List.length xs) + 1) (List.drop 0 (xs ++ [[(D.int IntKind.i64 (IntKind.wrap IntKind.i64 (last + (1 : Int)))), (D.int IntKind.i64 k), (D.int IntKind.i64 n), (D.int IntKind.i64 w)]])))) : Nat) : Int)))))
              (rAsk (true && (true && ((decide ((((List.length (List.take ((List.length xs) + 1) (List.drop 0 (xs ++ [[(D.int IntKind.i64 (IntKind.wrap IntKind.i64 (last + (1 : Int)))), (D.int IntKind.i64 k), (D.int IntKind.i64 n), (D.int IntKind.i64 w)]])))) : Nat) : Int) = (((List.length (List.take ((List.length xs) + 1) (List.drop 0 (xs ++ [[(D.int IntKind.i64 (IntKind.wrap IntKind.i64 (last + (1 : Int)))), (D.int IntKind.i64 k), (D.int IntKind.i64 n), (D.int IntKind.i64 w)]])))) : Nat) : Int))) && true)))
               (some ((AV.dat (D.int IntKind.i64 (IntKind.wrap IntKind.i64 (last + (1 : Int))))), ((Ent.obj ((AV.dat (D.list LK.full 4 (List.take ((Int.toNat (((List.length (List.take ((List.length xs) + 1) (List.drop 0 (xs ++ [[(D.int IntKind.i64 (IntKind.wrap IntKind.i64 (last + (1 : Int)))), (D.int IntKind.i64 k), (D.int IntKind.i64 n), (D.int IntKind.i64 w)]])))) : Nat) : Int)) - (Int.toNat (IntKind.wrap IntKind.i64 ((((List.length (List.take ((List.length xs) + 1) (List.drop 0 (xs ++ [[(D.int IntKind.i64 (IntKind.wrap IntKind.i64 (last + (1 : Int)))), (D.int IntKind.i64 k), (D.int IntKind.i64 n), (D.int IntKind.i64 w)]])))) : Nat) : Int) - (40 : Int))))) (List.drop (Int.toNat (IntKind.wrap IntKind.i64 ((((List.length (List.take ((List.length xs) + 1) (List.drop 0 (xs ++ [[(D.int IntKind.i64 (IntKind.wrap IntKind.i64 (last + (1 : Int)))), (D.int IntKind.i64 k), (D.int IntKind.i64 n), (D.int IntKind.i64 w)]])))) : Nat) : Int) - (40 : Int)))) (List.take ((List.length xs) + 1) (List.drop 0 (xs ++ [[(D.int IntKind.i64 (IntKind.wrap IntKind.i64 (last + (1 : Int)))), (D.int IntKind.i64 k), (D.int IntKind.i64 n), (D.int IntKind.i64 w)]]))))))) :: (AV.dat (D.int IntKind.i64 (IntKind.wrap IntKind.i64 (last + (1 : Int))))) :: (List.set (List.map AV.dat c) ((Int.toNat k) * 1) (AV.dat (D.int IntKind.i64 (IntKind.wrap IntKind.i64 (x2 + (1 : Int)))))))) :: o2)))
               none
              )
              none
             )
             (some ((AV.dat (D.int IntKind.i64 (IntKind.wrap IntKind.i64 (last + (1 : Int))))), ((Ent.obj ((AV.dat (D.list LK.any 4 (List.take ((List.length xs) + 1) (List.drop 0 (xs ++ [[(D.int IntKind.i64 (IntKind.wrap IntKind.i64 (last + (1 : Int)))), (D.int IntKind.i64 k), (D.int IntKind.i64 n), (D.int IntKind.i64 w)]]))))) :: (AV.dat (D.int IntKind.i64 (IntKind.wrap IntKind.i64 (last + (1 : Int))))) :: (List.set (List.map AV.dat c) ((Int.toNat k) * 1) (AV.dat (D.int IntKind.i64 (IntKind.wrap IntKind.i64 (x2 + (1 : Int)))))))) :: o2)))
            )
           )
           none
          )
          none
         )
         none
        )
        none
       )
      )
     )
     none
    )
    (rAsk ((decide ((0 + (List.length xs)) ≤ (List.length xs))) && (fits (TI.mk (TK.struct [(0, 2), (1, 3), (2, 3), (3, 30)]) 4 32 [(AV.dat (D.int IntKind.i64 (0 : Int))), (AV.dat (D.int IntKind.i64 (0 : Int))), (AV.dat (D.int IntKind.i64 (0 : Int))), (AV.dat (D.int IntKind.i64 (0 : Int)))] true) ((List.length xs) + 1)))
     (rAsk (true && (decide ((List.length xs) = (List.length xs))))
      (rAsk (wholeB false 0 ((List.length xs) + 1) (List.length (xs ++ [[(D.int IntKind.i64 (IntKind.wrap IntKind.i64 (last + (1 : Int)))), (D.int IntKind.i64 k), (D.int IntKind.i64 n), (D.int IntKind.i64 w)]])))
       (rAsk (decide ((((List.length (xs ++ [[(D.int IntKind.i64 (IntKind.wrap IntKind.i64 (last + (1 : Int)))), (D.int IntKind.i64 k), (D.int IntKind.i64 n), (D.int IntKind.i64 w)]])) : Nat) : Int) > (40 : Int)))
        (rAsk ((decide ((0 : Int) ≤ (IntKind.wrap IntKind.i64 ((((List.length (xs ++ [[(D.int IntKind.i64 (IntKind.wrap IntKind.i64 (last + (1 : Int)))), (D.int IntKind.i64 k), (D.int IntKind.i64 n), (D.int IntKind.i64 w)]])) : Nat) : Int) - (40 : Int))))) && ((decide ((IntKind.wrap IntKind.i64 ((((List.length (xs ++ [[(D.int IntKind.i64 (IntKind.wrap IntKind.i64 (last + (1 : Int)))), (D.int IntKind.i64 k), (D.int IntKind.i64 n), (D.int IntKind.i64 w)]])) : Nat) : Int) - (40 : Int))) ≤ (((List.length (xs ++ [[(D.int IntKind.i64 (IntKind.wrap IntKind.i64 (last + (1 : Int)))), (D.int IntKind.i64 k), (D.int IntKind.i64 n), (D.int IntKind.i64 w)]])) : Nat) : Int))) && (decide ((((List.length (xs ++ [[(D.int IntKind.i64 (IntKind.wrap IntKind.i64 (last + (1 : Int)))), (D.int IntKind.i64 k), (D.int IntKind.i64 n), (D.int IntKind.i64 w)]])) : Nat) : Int) ≤ (((List.length (xs ++ [[(D.int IntKind.i64 (IntKind.wrap IntKind.i64 (last + (1 : Int)))), (D.int IntKind.i64 k), (D.int IntKind.i64 n), (D.int IntKind.i64 w)]])) : Nat) : Int)))))
         (rAsk ((decide ((((List.length (xs ++ [[(D.int IntKind.i64 (IntKind.wrap IntKind.i64 (last + (1 : Int)))), (D.int IntKind.i64 k), (D.int IntKind.i64 n), (D.int IntKind.i64 w)]])) : Nat) : Int) = (((List.length (xs ++ [[(D.int IntKind.i64 (IntKind.wrap IntKind.i64 (last + (1 : Int)))), (D.int IntKind.i64 k), (D.int IntKind.i64 n), (D.int IntKind.i64 w)]])) : Nat) : Int))) && true)
          (some ((AV.dat (D.int IntKind.i64 (IntKind.wrap IntKind.i64 (last + (1 : Int))))), ((Ent.obj ((AV.dat (D.list LK.full 4 (List.take ((Int.toNat (((List.length (xs ++ [[(D.int IntKind.i64 (IntKind.wrap IntKind.i64 (last + (1 : Int)))), (D.int IntKind.i64 k), (D.int IntKind.i64 n), (D.int IntKind.i64 w)]])) : Nat) : Int)) - (Int.toNat (IntKind.wrap IntKind.i64 ((((List.length (xs ++ [[(D.int IntKind.i64 (IntKind.wrap IntKind.i64 (last + (1 : Int)))), (D.int IntKind.i64 k), (D.int IntKind.i64 n), (D.int IntKind.i64 w)]])) : Nat) : Int) - (40 : Int))))) (List.drop (0 + (Int.toNat (IntKind.wrap IntKind.i64 ((((List.length (xs ++ [[(D.int IntKind.i64 (IntKind.wrap IntKind.i64 (last + (1 : Int)))), (D.int IntKind.i64 k), (D.int IntKind.i64 n), (D.int IntKind.i64 w)]])) : Nat) : Int) - (40 : Int))))) (xs ++ [[(D.int IntKind.i64 (IntKind.wrap IntKind.i64 (last + (1 : Int)))), (D.int IntKind.i64 k), (D.int IntKind.i64 n), (D.int IntKind.i64 w)]]))))) :: (AV.dat (D.int IntKind.i64 (IntKind.wrap IntKind.i64 (last + (1 : Int))))) :: (List.map AV.dat c))) :: o2)))
          none
         )
         none
        )
        (some ((AV.dat (D.int IntKind.i64 (IntKind.wrap IntKind.i64 (last + (1 : Int))))), ((Ent.obj ((AV.rowc Mode.excl 4 (xs ++ [[(D.int IntKind.i64 (IntKind.wrap IntKind.i64 (last + (1 : Int)))), (D.int IntKind.i64 k), (D.int IntKind.i64 n), (D.int IntKind.i64 w)]])) :: (AV.dat (D.int IntKind.i64 (IntKind.wrap IntKind.i64 (last + (1 : Int))))) :: (List.map AV.dat c))) :: o2)))
       )
       (rAsk (decide ((((List.length (List.take ((List.length xs) + 1) (List.drop 0 (xs ++ [[(D.int IntKind.i64 (IntKind.wrap IntKind.i64 (last + (1 : Int)))), (D.int IntKind.i64 k), (D.int IntKind.i64 n), (D.int IntKind.i64 w)]])))) : Nat) : Int) > (40 : Int)))
        (rAsk ((decide ((0 : Int) ≤ (IntKind.wrap IntKind.i64 ((((List.length (List.take ((List.length xs) + 1) (List.drop 0 (xs ++ [[(D.int IntKind.i64 (IntKind.wrap IntKind.i64 (last + (1 : Int)))), (D.int IntKind.i64 k), (D.int IntKind.i64 n), (D.int IntKind.i64 w)]])))) : Nat) : Int) - (40 : Int))))) && ((decide ((IntKind.wrap IntKind.i64 ((((List.length (List.take ((List.length xs) + 1) (List.drop 0 (xs ++ [[(D.int IntKind.i64 (IntKind.wrap IntKind.i64 (last + (1 : Int)))), (D.int IntKind.i64 k), (D.int IntKind.i64 n), (D.int IntKind.i64 w)]])))) : Nat) : Int) - (40 : Int))) ≤ (((List.length (List.take ((List.length xs) + 1) (List.drop 0 (xs ++ [[(D.int IntKind.i64 (IntKind.wrap IntKind.i64 (last + (1 : Int)))), (D.int IntKind.i64 k), (D.int IntKind.i64 n), (D.int IntKind.i64 w)]])))) : Nat) : Int))) && (decide ((((List.length (List.take ((List.length xs) + 1) (List.drop 0 (xs ++ [[(D.int IntKind.i64 (IntKind.wrap IntKind.i64 (last + (1 : Int)))), (D.int IntKind.i64 k), (D.int IntKind.i64 n), (D.int IntKind.i64 w)]])))) : Nat) : Int) ≤ (((List.length (List.take ((List.length xs) + 1) (List.drop 0 (xs ++ [[(D.int IntKind.i64 (IntKind.wrap IntKind.i64 (last + (1 : Int)))), (D.int IntKind.i64 k), (D.int IntKind.i64 n), (D.int IntKind.i64 w)]])))) : Nat) : Int)))))
         (rAsk (true && (true && ((decide ((((List.length (List.take ((List.length xs) + 1) (List.drop 0 (xs ++ [[(D.int IntKind.i64 (IntKind.wrap IntKind.i64 (last + (1 : Int)))), (D.int IntKind.i64 k), (D.int IntKind.i64 n), (D.int IntKind.i64 w)]])))) : Nat) : Int) = (((List.length (List.take ((List.length xs) + 1) (List.drop 0 (xs ++ [[(D.int IntKind.i64 (IntKind.wrap IntKind.i64 (last + (1 : Int)))), (D.int IntKind.i64 k), (D.int IntKind.i64 n), (D.int IntKind.i64 w)]])))) : Nat) : Int))) && true)))
          (some ((AV.dat (D.int IntKind.i64 (IntKind.wrap IntKind.i64 (last + (1 : Int))))), ((Ent.obj ((AV.dat (D.list LK.full 4 (List.take ((Int.toNat (((List.length (List.take ((List.length xs) + 1) (List.drop 0 (xs ++ [[(D.int IntKind.i64 (IntKind.wrap IntKind.i64 (last + (1 : Int)))), (D.int IntKind.i64 k), (D.int IntKind.i64 n), (D.int IntKind.i64 w)]])))) : Nat) : Int)) - (Int.toNat (IntKind.wrap IntKind.i64 ((((List.length (List.take ((List.length xs) + 1) (List.drop 0 (xs ++ [[(D.int IntKind.i64 (IntKind.wrap IntKind.i64 (last + (1 : Int)))), (D.int IntKind.i64 k), (D.int IntKind.i64 n), (D.int IntKind.i64 w)]])))) : Nat) : Int) - (40 : Int))))) (List.drop (Int.toNat (IntKind.wrap IntKind.i64 ((((List.length (List.take ((List.length xs) + 1) (List.drop 0 (xs ++ [[(D.int IntKind.i64 (IntKind.wrap IntKind.i64 (last + (1 : Int)))), (D.int IntKind.i64 k), (D.int IntKind.i64 n), (D.int IntKind.i64 w)]])))) : Nat) : Int) - (40 : Int)))) (List.take ((List.length xs) + 1) (List.drop 0 (xs ++ [[(D.int IntKind.i64 (IntKind.wrap IntKind.i64 (last + (1 : Int)))), (D.int IntKind.i64 k), (D.int IntKind.i64 n), (D.int IntKind.i64 w)]]))))))) :: (AV.dat (D.int IntKind.i64 (IntKind.wrap IntKind.i64 (last + (1 : Int))))) :: (List.map AV.dat c))) :: o2)))
          none
         )
         none
        )
        (some ((AV.dat (D.int IntKind.i64 (IntKind.wrap IntKind.i64 (last + (1 : Int))))), ((Ent.obj ((AV.dat (D.list LK.any 4 (List.take ((List.length xs) + 1) (List.drop 0 (xs ++ [[(D.int IntKind.i64 (IntKind.wrap IntKind.i64 (last + (1 : Int)))), (D.int IntKind.i64 k), (D.int IntKind.i64 n), (D.int IntKind.i64 w)]]))))) :: (AV.dat (D.int IntKind.i64 (IntKind.wrap IntKind.i64 (last + (1 : Int))))) :: (List.map AV.dat c))) :: o2)))
       )
      )
      none
     )
     none
    )
   )
   (rAsk ((decide ((0 + (List.length xs)) ≤ (List.length xs))) && (fits (TI.mk (TK.struct [(0, 2), (1, 3), (2, 3), (3, 30)]) 4 32 [(AV.dat (D.int IntKind.i64 (0 : Int))), (AV.dat (D.int IntKind.i64 (0 : Int))), (AV.dat (D.int IntKind.i64 (0 : Int))), (AV.dat (D.int IntKind.i64 (0 : Int)))] true) ((List.length xs) + 1)))
    (rAsk (true && (decide ((List.length xs) = (List.length xs))))
     (rAsk (wholeB false 0 ((List.length xs) + 1) (List.length (xs ++ [[(D.int IntKind.i64 (IntKind.wrap IntKind.i64 (last + (1 : Int)))), (D.int IntKind.i64 k), (D.int IntKind.i64 n), (D.int IntKind.i64 w)]])))
      (rAsk (decide ((((List.length (xs ++ [[(D.int IntKind.i64 (IntKind.wrap IntKind.i64 (last + (1 : Int)))), (D.int IntKind.i64 k), (D.int IntKind.i64 n), (D.int IntKind.i64 w)]])) : Nat) : Int) > (40 : Int)))
       (rAsk ((decide ((0 : Int) ≤ (IntKind.wrap IntKind.i64 ((((List.length (xs ++ [[(D.int IntKind.i64 (IntKind.wrap IntKind.i64 (last + (1 : Int)))), (D.int IntKind.i64 k), (D.int IntKind.i64 n), (D.int IntKind.i64 w)]])) : Nat) : Int) - (40 : Int))))) && ((decide ((IntKind.wrap IntKind.i64 ((((List.length (xs ++ [[(D.int IntKind.i64 (IntKind.wrap IntKind.i64 (last + (1 : Int)))), (D.int IntKind.i64 k), (D.int IntKind.i64 n), (D.int IntKind.i64 w)]])) : Nat) : Int) - (40 : Int))) ≤ (((List.length (xs ++ [[(D.int IntKind.i64 (IntKind.wrap IntKind.i64 (last + (1 : Int)))), (D.int IntKind.i64 k), (D.int IntKind.i64 n), (D.int IntKind.i64 w)]])) : Nat) : Int))) && (decide ((((List.length (xs ++ [[(D.int IntKind.i64 (IntKind.wrap IntKind.i64 (last + (1 : Int)))), (D.int IntKind.i64 k), (D.int IntKind.i64 n), (D.int IntKind.i64 w)]])) : Nat) : Int) ≤ (((List.length (xs ++ [[(D.int IntKind.i64 (IntKind.wrap IntKind.i64 (last + (1 : Int)))), (D.int IntKind.i64 k), (D.int IntKind.i64 n), (D.int IntKind.i64 w)]])) : Nat) : Int)))))
        (rAsk ((decide ((((List.length (xs ++ [[(D.int IntKind.i64 (IntKind.wrap IntKind.i64 (last + (1 : Int)))), (D.int IntKind.i64 k), (D.int IntKind.i64 n), (D.int IntKind.i64 w)]])) : Nat) : Int) = (((List.length (xs ++ [[(D.int IntKind.i64 (IntKind.wrap IntKind.i64 (last + (1 : Int)))), (D.int IntKind.i64 k), (D.int IntKind.i64 n), (D.int IntKind.i64 w)]])) : Nat) : Int))) && true)
         (some ((AV.dat (D.int IntKind.i64 (IntKind.wrap IntKind.i64 (last + (1 : Int))))), ((Ent.obj ((AV.dat (D.list LK.full 4 (List.take ((Int.toNat (((List.length (xs ++ [[(D.int IntKind.i64 (IntKind.wrap IntKind.i64 (last + (1 : Int)))), (D.int IntKind.i64 k), (D.int IntKind.i64 n), (D.int IntKind.i64 w)]])) : Nat) : Int)) - (Int.toNat (IntKind.wrap IntKind.i64 ((((List.length (xs ++ [[(D.int IntKind.i64 (IntKind.wrap IntKind.i64 (last + (1 : Int)))), (D.int IntKind.i64 k), (D.int IntKind.i64 n), (D.int IntKind.i64 w)]])) : Nat) : Int) - (40 : Int))))) (List.drop (0 + (Int.toNat (IntKind.wrap IntKind.i64 ((((List.length (xs ++ [[(D.int IntKind.i64 (IntKind.wrap IntKind.i64 (last + (1 : Int)))), (D.int IntKind.i64 k), (D.int IntKind.i64 n), (D.int IntKind.i64 w)]])) : Nat) : Int) - (40 : Int))))) (xs ++ [[(D.int IntKind.i64 (IntKind.wrap IntKind.i64 (last + (1 : Int)))), (D.int IntKind.i64 k), (D.int IntKind.i64 n), (D.int IntKind.i64 w)]]))))) :: (AV.dat (D.int IntKind.i64 (IntKind.wrap IntKind.i64 (last + (1 : Int))))) :: (List.map AV.dat c))) :: o2)))
         none
        )
        none
       )
       (some ((AV.dat (D.int IntKind.i64 (IntKind.wrap IntKind.i64 (last + (1 : Int))))), ((Ent.obj ((AV.rowc Mode.excl 4 (xs ++ [[(D.int IntKind.i64 (IntKind.wrap IntKind.i64 (last + (1 : Int)))), (D.int IntKind.i64 k), (D.int IntKind.i64 n), (D.int IntKind.i64 w)]])) :: (AV.dat (D.int IntKind.i64 (IntKind.wrap IntKind.i64 (last + (1 : Int))))) :: (List.map AV.dat c))) :: o2)))
      )
      (rAsk (decide ((((List.length (List.take ((List.length xs) + 1) (List.drop 0 (xs ++ [[(D.int IntKind.i64 (IntKind.wrap IntKind.i64 (last + (1 : Int)))), (D.int IntKind.i64 k), (D.int IntKind.i64 n), (D.int IntKind.i64 w)]])))) : Nat) : Int) > (40 : Int)))
       (rAsk ((decide ((0 : Int) ≤ (IntKind.wrap IntKind.i64 ((((List.length (List.take ((List.length xs) + 1) (List.drop 0 (xs ++ [[(D.int IntKind.i64 (IntKind.wrap IntKind.i64 (last + (1 : Int)))), (D.int IntKind.i64 k), (D.int IntKind.i64 n), (D.int IntKind.i64 w)]])))) : Nat) : Int) - (40 : Int))))) && ((decide ((IntKind.wrap IntKind.i64 ((((List.length (List.take ((List.length xs) + 1) (List.drop 0 (xs ++ [[(D.int IntKind.i64 (IntKind.wrap IntKind.i64 (last + (1 : Int)))), (D.int IntKind.i64 k), (D.int IntKind.i64 n), (D.int IntKind.i64 w)]])))) : Nat) : Int) - (40 : Int))) ≤ (((List.length (List.take ((List.length xs) + 1) (List.drop 0 (xs ++ [[(D.int IntKind.i64 (IntKind.wrap IntKind.i64 (last + (1 : Int)))), (D.int IntKind.i64 k), (D.int IntKind.i64 n), (D.int IntKind.i64 w)]])))) : Nat) : Int))) && (decide ((((List.length (List.take ((List.length xs) + 1) (List.drop 0 (xs ++ [[(D.int IntKind.i64 (IntKind.wrap IntKind.i64 (last + (1 : Int)))), (D.int IntKind.i64 k), (D.int IntKind.i64 n), (D.int IntKind.i64 w)]])))) : Nat) : Int) ≤ (((List.length (List.take ((List.length xs) + 1) (List.drop 0 (xs ++ [[(D.int IntKind.i64 (IntKind.wrap IntKind.i64 (last + (1 : Int)))), (D.int IntKind.i64 k), (D.int IntKind.i64 n), (D.int IntKind.i64 w)]])))) : Nat) : Int)))))
        (rAsk (true && (true && ((decide ((((List.length (List.take ((List.length xs) + 1) (List.drop 0 (xs ++ [[(D.int IntKind.i64 (IntKind.wrap IntKind.i64 (last + (1 : Int)))), (D.int IntKind.i64 k), (D.int IntKind.i64 n), (D.int IntKind.i64 w)]])))) : Nat) : Int) = (((List.length (List.take ((List.length xs) + 1) (List.drop 0 (xs ++ [[(D.int IntKind.i64 (IntKind.wrap IntKind.i64 (last + (1 : Int)))), (D.int IntKind.i64 k), (D.int IntKind.i64 n), (D.int IntKind.i64 w)]])))) : Nat) : Int))) && true)))
         (some ((AV.dat (D.int IntKind.i64 (IntKind.wrap IntKind.i64 (last + (1 : Int))))), ((Ent.obj ((AV.dat (D.list LK.full 4 (List.take ((Int.toNat (((List.length (List.take ((List.length xs) + 1) (List.drop 0 (xs ++ [[(D.int IntKind.i64 (IntKind.wrap IntKind.i64 (last + (1 : Int)))), (D.int IntKind.i64 k), (D.int IntKind.i64 n), (D.int IntKind.i64 w)]])))) : Nat) : Int)) - (Int.toNat (IntKind.wrap IntKind.i64 ((((List.length (List.take ((List.length xs) + 1) (List.drop 0 (xs ++ [[(D.int IntKind.i64 (IntKind.wrap IntKind.i64 (last + (1 : Int)))), (D.int IntKind.i64 k), (D.int IntKind.i64 n), (D.int IntKind.i64 w)]])))) : Nat) : Int) - (40 : Int))))) (List.drop (Int.toNat (IntKind.wrap IntKind.i64 ((((List.length (List.take ((List.length xs) + 1) (List.drop 0 (xs ++ [[(D.int IntKind.i64 (IntKind.wrap IntKind.i64 (last + (1 : Int)))), (D.int IntKind.i64 k), (D.int IntKind.i64 n), (D.int IntKind.i64 w)]])))) : Nat) : Int) - (40 : Int)))) (List.take ((List.length xs) + 1) (List.drop 0 (xs ++ [[(D.int IntKind.i64 (IntKind.wrap IntKind.i64 (last + (1 : Int)))), (D.int IntKind.i64 k), (D.int IntKind.i64 n), (D.int IntKind.i64 w)]]))))))) :: (AV.dat (D.int IntKind.i64 (IntKind.wrap IntKind.i64 (last + (1 : Int))))) :: (List.map AV.dat c))) :: o2)))
         none
        )
        none
       )
       (some ((AV.dat (D.int IntKind.i64 (IntKind.wrap IntKind.i64 (last + (1 : Int))))), ((Ent.obj ((AV.dat (D.list LK.any 4 (List.take ((List.length xs) + 1) (List.drop 0 (xs ++ [[(D.int IntKind.i64 (IntKind.wrap IntKind.i64 (last + (1 : Int)))), (D.int IntKind.i64 k), (D.int IntKind.i64 n), (D.int IntKind.i64 w)]]))))) :: (AV.dat (D.int IntKind.i64 (IntKind.wrap IntKind.i64 (last + (1 : Int))))) :: (List.map AV.dat c))) :: o2)))
      )
     )
     none
    )
    none
   )
  )
  := by kernel_rfl

theorem add2_eq (xs : Row) (last : Int) (c : List D) (k n w : Int) (o2 : List Ent) : (add2 xs last c k n w o2).ev =
  (rAsk (decide (k > (0 : Int)))
   (rAsk (decide (k < (16 : Int)))
    (rAsk ((decide ((0 : Int) ≤ k)) && (decide (k < (16 : Int))))
     (rGet (cellD ((AV.dat (D.list LK.full 4 xs)) :: (AV.dat (D.int IntKind.i64 (IntKind.wrap IntKind.i64 (last + (1 : Int))))) :: (List.map AV.dat c)) (((Int.toNat k) * 1) + 2)) fun x1 =>
      (rGet (D.int? IntKind.i64 x1) fun x2 =>
       (rAsk ((decide ((0 : Int) ≤ k)) && (decide (k < (16 : Int))))
        (rAsk ((decide (((((Int.toNat k) * 1) + 2) + 1) ≤ (List.length ((AV.dat (D.list LK.full 4 xs)) :: (AV.dat (D.int IntKind.i64 (IntKind.wrap IntKind.i64 (last + (1 : Int))))) :: (List.map AV.dat c))))) && true)
         (rAsk (true && (true && (fits (TI.mk (TK.struct [(0, 2), (1, 3), (2, 3), (3, 30)]) 4 32 [(AV.dat (D.int IntKind.i64 (0 : Int))), (AV.dat (D.int IntKind.i64 (0 : Int))), (AV.dat (D.int IntKind.i64 (0 : Int))), (AV.dat (D.int IntKind.i64 (0 : Int)))] true) ((List.length xs) + 1))))
          (rAsk (wholeB false 0 ((List.length xs) + 1) (List.length (xs ++ [[(D.int IntKind.i64 (IntKind.wrap IntKind.i64 (last + (1 : Int)))), (D.int IntKind.i64 k), (D.int IntKind.i64 n), (D.int IntKind.i64 w)]])))
           (rAsk (decide ((((List.length (xs ++ [[(D.int IntKind.i64 (IntKind.wrap IntKind.i64 (last + (1 : Int)))), (D.int IntKind.i64 k), (D.int IntKind.i64 n), (D.int IntKind.i64 w)]])) : Nat) : Int) > (40 : Int)))
            (rAsk ((decide ((0 : Int) ≤ (IntKind.wrap IntKind.i64 ((((List.length (xs ++ [[(D.int IntKind.i64 (IntKind.wrap IntKind.i64 (last + (1 : Int)))), (D.int IntKind.i64 k), (D.int IntKind.i64 n), (D.int IntKind.i64 w)]])) : Nat) : Int) - (40 : Int))))) && ((decide ((IntKind.wrap IntKind.i64 ((((List.length (xs ++ [[(D.int IntKind.i64 (IntKind.wrap IntKind.i64 (last + (1 : Int)))), (D.int IntKind.i64 k), (D.int IntKind.i64 n), (D.int IntKind.i64 w)]])) : Nat) : Int) - (40 : Int))) ≤ (((List.length (xs ++ [[(D.int IntKind.i64 (IntKind.wrap IntKind.i64 (last + (1 : Int)))), (D.int IntKind.i64 k), (D.int IntKind.i64 n), (D.int IntKind.i64 w)]])) : Nat) : Int))) && (decide ((((List.length (xs ++ [[(D.int IntKind.i64 (IntKind.wrap IntKind.i64 (last + (1 : Int)))), (D.int IntKind.i64 k), (D.int IntKind.i64 n), (D.int IntKind.i64 w)]])) : Nat) : Int) ≤ (((List.length (xs ++ [[(D.int IntKind.i64 (IntKind.wrap IntKind.i64 (last + (1 : Int)))), (D.int IntKind.i64 k), (D.int IntKind.i64 n), (D.int IntKind.i64 w)]])) : Nat) : Int)))))
             (rAsk ((decide ((((List.length (xs ++ [[(D.int IntKind.i64 (IntKind.wrap IntKind.i64 (last + (1 : Int)))), (D.int IntKind.i64 k), (D.int IntKind.i64 n), (D.int IntKind.i64 w)]])) : Nat) : Int) = (((List.length (xs ++ [[(D.int IntKind.i64 (IntKind.wrap IntKind.i64 (last + (1 : Int)))), (D.int IntKind.i64 k), (D.int IntKind.i64 n), (D.int IntKind.i64 w)]])) : Nat) : Int))) && true)
              (some ((AV.dat (D.int IntKind.i64 (IntKind.wrap IntKind.i64 (last + (1 : Int))))), ((Ent.obj ((AV.dat (D.list LK.full 4 (List.take ((Int.toNat (((List.length (xs ++ [[(D.int IntKind.i64 (IntKind.wrap IntKind.i64 (last + (1 : Int)))), (D.int IntKind.i64 k), (D.int IntKind.i64 n), (D.int IntKind.i64 w)]])) : Nat) : Int)) - (Int.toNat (IntKind.wrap IntKind.i64 ((((List.length (xs ++ [[(D.int IntKind.i64 (IntKind.wrap IntKind.i64 (last + (1 : Int)))), (D.int IntKind.i64 k), (D.int IntKind.i64 n), (D.int IntKind.i64 w)]])) : Nat) : Int) - (40 : Int))))) (List.drop (0 + (Int.toNat (IntKind.wrap IntKind.i64 ((((List.length (xs ++ [[(D.int IntKind.i64 (IntKind.wrap IntKind.i64 (last + (1 : Int)))), (D.int IntKind.i64 k), (D.int IntKind.i64 n), (D.int IntKind.i64 w)]])) : Nat) : Int) - (40 : Int))))) (xs ++ [[(D.int IntKind.i64 (IntKind.wrap IntKind.i64 (last + (1 : Int)))), (D.int IntKind.i64 k), (D.int IntKind.i64 n), (D.int IntKind.i64 w)]]))))) :: (AV.dat (D.int IntKind.i64 (IntKind.wrap IntKind.i64 (last + (1 : Int))))) :: (List.set (List.map AV.dat c) ((Int.toNat k) * 1) (AV.dat (D.int IntKind.i64 (IntKind.wrap IntKind.i64 (x2 + (1 : Int)))))))) :: o2)))
              none
             )
             none
            )
            (some ((AV.dat (D.int IntKind.i64 (IntKind.wrap IntKind.i64 (last + (1 : Int))))), ((Ent.obj ((AV.rowc Mode.excl 4 (xs ++ [[(D.int IntKind.i64 (IntKind.wrap IntKind.i64 (last + (1 : Int)))), (D.int IntKind.i64 k), (D.int IntKind.i64 n), (D.int IntKind.i64 w)]])) :: (AV.dat (D.int IntKind.i64 (IntKind.wrap IntKind.i64 (last + (1 : Int))))) :: (List.set (List.map AV.dat c) ((Int.toNat k) * 1) (AV.dat (D.int IntKind.i64 (IntKind.wrap IntKind.i64 (x2 + (1 : Int)))))))) :: o2)))
           )
           (rAsk (decide ((((List.length (List.take ((List.length xs) + 1) (List.drop 0 (xs ++ [[(D.int IntKind.i64 (IntKind.wrap IntKind.i64 (last + (1 : Int)))), (D.int IntKind.i64 k), (D.int IntKind.i64 n), (D.int IntKind.i64 w)]])))) : Nat) : Int) > (40 : Int)))
            (rAsk ((decide ((0 : Int) ≤ (IntKind.wrap IntKind.i64 ((((List.length (List.take ((List.length xs) + 1) (List.drop 0 (xs ++ [[(D.int IntKind.i64 (IntKind.wrap IntKind.i64 (last + (1 : Int)))), (D.int IntKind.i64 k), (D.int IntKind.i64 n), (D.int IntKind.i64 w)]])))) : Nat) : Int) - (40 : Int))))) && ((decide ((IntKind.wrap IntKind.i64 ((((List.length (List.take ((List.length xs) + 1) (List.drop 0 (xs ++ [[(D.int IntKind.i64 (IntKind.wrap IntKind.i64 (last + (1 : Int)))), (D.int IntKind.i64 k), (D.int IntKind.i64 n), (D.int IntKind.i64 w)]])))) : Nat) : Int) - (40 : Int))) ≤ (((List.length (List.take ((List.length xs) + 1) (List.drop 0 (xs ++ [[(D.int IntKind.i64 (IntKind.wrap IntKind.i64 (last + (1 : Int)))), (D.int IntKind.i64 k), (D.int IntKind.i64 n), (D.int IntKind.i64 w)]])))) : Nat) : Int))) && (decide ((((List.length (List.take ((List.length xs) + 1) (List.drop 0 (xs ++ [[(D.int IntKind.i64 (IntKind.wrap IntKind.i64 (last + (1 : Int)))), (D.int IntKind.i64 k), (D.int IntKind.i64 n), (D.int IntKind.i64 w)]])))) : Nat) : Int) ≤ (((List.length (List.take ((List.length xs) + 1) (List.drop 0 (xs ++ [[(D.int IntKind.i64 (IntKind.wrap IntKind.i64 (last + (1 : Int)))), (D.int IntKind.i64 k), (D.int IntKind.i64 n), (D.int IntKind.i64 w)]])))) : Nat) : Int)))))
             (rAsk (true && (true && ((decide ((((List.length (List.take ((List.length xs) + 1) (List.drop 0 (xs ++ [[(D.int IntKind.i64 (IntKind.wrap IntKind.i64 (last + (1 : Int)))), (D.int IntKind.i64 k), (D.int IntKind.i64 n), (D.int IntKind.i64 w)]])))) : Nat) : Int) = (((List.length (List.take ((List.length xs) + 1) (List.drop 0 (xs ++ [[(D.int IntKind.i64 (IntKind.wrap IntKind.i64 (last + (1 : Int)))), (D.int IntKind.i64 k), (D.int IntKind.i64 n), (D.int IntKind.i64 w)]])))) : Nat) : Int))) && true)))
              (some ((AV.dat (D.int IntKind.i64 (IntKind.wrap IntKind.i64 (last + (1 : Int))))), ((Ent.obj ((AV.dat (D.list LK.full 4 (List.take ((Int.toNat (((List.length (List.take ((List.length xs) + 1) (List.drop 0 (xs ++ [[(D.int IntKind.i64 (IntKind.wrap IntKind.i64 (last + (1 : Int)))), (D.int IntKind.i64 k), (D.int IntKind.i64 n), (D.int IntKind.i64 w)]])))) : Nat) : Int)) - (Int.toNat (IntKind.wrap IntKind.i64 ((((List.length (List.take ((List.length xs) + 1) (List.drop 0 (xs ++ [[(D.int IntKind.i64 (IntKind.wrap IntKind.i64 (last + (1 : Int)))), (D.int IntKind.i64 k), (D.int IntKind.i64 n), (D.int IntKind.i64 w)]])))) : Nat) : Int) - (40 : Int))))) (List.drop (Int.toNat (IntKind.wrap IntKind.i64 ((((List.length (List.take ((List.length xs) + 1) (List.drop 0 (xs ++ [[(D.int IntKind.i64 (IntKind.wrap IntKind.i64 (last + (1 : Int)))), (D.int IntKind.i64 k), (D.int IntKind.i64 n), (D.int IntKind.i64 w)]])))) : Nat) : Int) - (40 : Int)))) (List.take ((List.length xs) + 1) (List.drop 0 (xs ++ [[(D.int IntKind.i64 (IntKind.wrap IntKind.i64 (last + (1 : Int)))), (D.int IntKind.i64 k), (D.int IntKind.i64 n), (D.int IntKind.i64 w)]]))))))) :: (AV.dat (D.int IntKind.i64 (IntKind.wrap IntKind.i64 (last + (1 : Int))))) :: (List.set (List.map AV.dat c) ((Int.toNat k) * 1) (AV.dat (D.int IntKind.i64 (IntKind.wrap IntKind.i64 (x2 + (1 : Int)))))))) :: o2)))
              none
             )
             none
            )
            (some ((AV.dat (D.int IntKind.i64 (IntKind.wrap IntKind.i64 (last + (1 : Int))))), ((Ent.obj ((AV.dat (D.list LK.any 4 (List.take ((List.length xs) + 1) (List.drop 0 (xs ++ [[(D.int IntKind.i64 (IntKind.wrap IntKind.i64 (last + (1 : Int)))), (D.int IntKind.i64 k), (D.int IntKind.i64 n), (D.int IntKind.i64 w)]]))))) :: (AV.dat (D.int IntKind.i64 (IntKind.wrap IntKind.i64 (last + (1 : Int))))) :: (List.set (List.map AV.dat c) ((Int.toNat k) * 1) (AV.dat (D.int IntKind.i64 (IntKind.wrap IntKind.i64 (x2 + (1 : Int)))))))) :: o2)))
           )
          )
          none
         )
         none
        )
        none
       )
      )
     )
     none
    )
    (rAsk (true && (true && (fits (TI.mk (TK.struct [(0, 2), (1, 3), (2, 3), (3, 30)]) 4 32 [(AV.dat (D.int IntKind.i64 (0 : Int))), (AV.dat (D.int IntKind.i64 (0 : Int))), (AV.dat (D.int IntKind.i64 (0 : Int))), (AV.dat (D.int IntKind.i64 (0 : Int)))] true) ((List.length xs) + 1))))
     (rAsk (wholeB false 0 ((List.length xs) + 1) (List.length (xs ++ [[(D.int IntKind.i64 (IntKind.wrap IntKind.i64 (last + (1 : Int)))), (D.int IntKind.i64 k), (D.int IntKind.i64 n), (D.int IntKind.i64 w)]])))
      (rAsk (decide ((((List.length (xs ++ [[(D.int IntKind.i64 (IntKind.wrap IntKind.i64 (last + (1 : Int)))), (D.int IntKind.i64 k), (D.int IntKind.i64 n), (D.int IntKind.i64 w)]])) : Nat) : Int) > (40 : Int)))
       (rAsk ((decide ((0 : Int) ≤ (IntKind.wrap IntKind.i64 ((((List.length (xs ++ [[(D.int IntKind.i64 (IntKind.wrap IntKind.i64 (last + (1 : Int)))), (D.int IntKind.i64 k), (D.int IntKind.i64 n), (D.int IntKind.i64 w)]])) : Nat) : Int) - (40 : Int))))) && ((decide ((IntKind.wrap IntKind.i64 ((((List.length (xs ++ [[(D.int IntKind.i64 (IntKind.wrap IntKind.i64 (last + (1 : Int)))), (D.int IntKind.i64 k), (D.int IntKind.i64 n), (D.int IntKind.i64 w)]])) : Nat) : Int) - (40 : Int))) ≤ (((List.length (xs ++ [[(D.int IntKind.i64 (IntKind.wrap IntKind.i64 (last + (1 : Int)))), (D.int IntKind.i64 k), (D.int IntKind.i64 n), (D.int IntKind.i64 w)]])) : Nat) : Int))) && (decide ((((List.length (xs ++ [[(D.int IntKind.i64 (IntKind.wrap IntKind.i64 (last + (1 : Int)))), (D.int IntKind.i64 k), (D.int IntKind.i64 n), (D.int IntKind.i64 w)]])) : Nat) : Int) ≤ (((List.length (xs ++ [[(D.int IntKind.i64 (IntKind.wrap IntKind.i64 (last + (1 : Int)))), (D.int IntKind.i64 k), (D.int IntKind.i64 n), (D.int IntKind.i64 w)]])) : Nat) : Int)))))
        (rAsk ((decide ((((List.length (xs ++ [[(D.int IntKind.i64 (IntKind.wrap IntKind.i64 (last + (1 : Int)))), (D.int IntKind.i64 k), (D.int IntKind.i64 n), (D.int IntKind.i64 w)]])) : Nat) : Int) = (((List.length (xs ++ [[(D.int IntKind.i64 (IntKind.wrap IntKind.i64 (last + (1 : Int)))), (D.int IntKind.i64 k), (D.int IntKind.i64 n), (D.int IntKind.i64 w)]])) : Nat) : Int))) && true)
         (some ((AV.dat (D.int IntKind.i64 (IntKind.wrap IntKind.i64 (last + (1 : Int))))), ((Ent.obj ((AV.dat (D.list LK.full 4 (List.take ((Int.toNat (((List.length (xs ++ [[(D.int IntKind.i64 (IntKind.wrap IntKind.i64 (last + (1 : Int)))), (D.int IntKind.i64 k), (D.int IntKind.i64 n), (D.int IntKind.i64 w)]])) : Nat) : Int)) - (Int.toNat (IntKind.wrap IntKind.i64 ((((List.length (xs ++ [[(D.int IntKind.i64 (IntKind.wrap IntKind.i64 (last + (1 : Int)))), (D.int IntKind.i64 k), (D.int IntKind.i64 n), (D.int IntKind.i64 w)]])) : Nat) : Int) - (40 : Int))))) (List.drop (0 + (Int.toNat (IntKind.wrap IntKind.i64 ((((List.length (xs ++ [[(D.int IntKind.i64 (IntKind.wrap IntKind.i64 (last + (1 : Int)))), (D.int IntKind.i64 k), (D.int IntKind.i64 n), (D.int IntKind.i64 w)]])) : Nat) : Int) - (40 : Int))))) (xs ++ [[(D.int IntKind.i64 (IntKind.wrap IntKind.i64 (last + (1 : Int)))), (D.int IntKind.i64 k), (D.int IntKind.i64 n), (D.int IntKind.i64 w)]]))))) :: (AV.dat (D.int IntKind.i64 (IntKind.wrap IntKind.i64 (last + (1 : Int))))) :: (List.map AV.dat c))) :: o2)))
         none
        )
        none
       )
       (some ((AV.dat (D.int IntKind.i64 (IntKind.wrap IntKind.i64 (last + (1 : Int))))), ((Ent.obj ((AV.rowc Mode.excl 4 (xs ++ [[(D.int IntKind.i64 (IntKind.wrap IntKind.i64 (last + (1 : Int)))), (D.int IntKind.i64 k), (D.int IntKind.i64 n), (D.int IntKind.i64 w)]])) :: (AV.dat (D.int IntKind.i64 (IntKind.wrap IntKind.i64 (last + (1 : Int))))) :: (List.map AV.dat c))) :: o2)))
      )
      (rAsk (decide ((((List.length (List.take ((List.length xs) + 1) (List.drop 0 (xs ++ [[(D.int IntKind.i64 (IntKind.wrap IntKind.i64 (last + (1 : Int)))), (D.int IntKind.i64 k), (D.int IntKind.i64 n), (D.int IntKind.i64 w)]])))) : Nat) : Int) > (40 : Int)))
       (rAsk ((decide ((0 : Int) ≤ (IntKind.wrap IntKind.i64 ((((List.length (List.take ((List.length xs) + 1) (List.drop 0 (xs ++ [[(D.int IntKind.i64 (IntKind.wrap IntKind.i64 (last + (1 : Int)))), (D.int IntKind.i64 k), (D.int IntKind.i64 n), (D.int IntKind.i64 w)]])))) : Nat) : Int) - (40 : Int))))) && ((decide ((IntKind.wrap IntKind.i64 ((((List.length (List.take ((List.length xs) + 1) (List.drop 0 (xs ++ [[(D.int IntKind.i64 (IntKind.wrap IntKind.i64 (last + (1 : Int)))), (D.int IntKind.i64 k), (D.int IntKind.i64 n), (D.int IntKind.i64 w)]])))) : Nat) : Int) - (40 : Int))) ≤ (((List.length (List.take ((List.length xs) + 1) (List.drop 0 (xs ++ [[(D.int IntKind.i64 (IntKind.wrap IntKind.i64 (last + (1 : Int)))), (D.int IntKind.i64 k), (D.int IntKind.i64 n), (D.int IntKind.i64 w)]])))) : Nat) : Int))) && (decide ((((List.length (List.take ((List.length xs) + 1) (List.drop 0 (xs ++ [[(D.int IntKind.i64 (IntKind.wrap IntKind.i64 (last + (1 : Int)))), (D.int IntKind.i64 k), (D.int IntKind.i64 n), (D.int IntKind.i64 w)]])))) : Nat) : Int) ≤ (((List.length (List.take ((List.length xs) + 1) (List.drop 0 (xs ++ [[(D.int IntKind.i64 (IntKind.wrap IntKind.i64 (last + (1 : Int)))), (D.int IntKind.i64 k), (D.int IntKind.i64 n), (D.int IntKind.i64 w)]])))) : Nat) : Int)))))
        (rAsk (true && (true && ((decide ((((List.length (List.take ((List.length xs) + 1) (List.drop 0 (xs ++ [[(D.int IntKind.i64 (IntKind.wrap IntKind.i64 (last + (1 : Int)))), (D.int IntKind.i64 k), (D.int IntKind.i64 n), (D.int IntKind.i64 w)]])))) : Nat) : Int) = (((List.length (List.take ((List.length xs) + 1) (List.drop 0 (xs ++ [[(D.int IntKind.i64 (IntKind.wrap IntKind.i64 (last + (1 : Int)))), (D.int IntKind.i64 k), (D.int IntKind.i64 n), (D.int IntKind.i64 w)]])))) : Nat) : Int))) && true)))
         (some ((AV.dat (D.int IntKind.i64 (IntKind.wrap IntKind.i64 (last + (1 : Int))))), ((Ent.obj ((AV.dat (D.list LK.full 4 (List.take ((Int.toNat (((List.length (List.take ((List.length xs) + 1) (List.drop 0 (xs ++ [[(D.int IntKind.i64 (IntKind.wrap IntKind.i64 (last + (1 : Int)))), (D.int IntKind.i64 k), (D.int IntKind.i64 n), (D.int IntKind.i64 w)]])))) : Nat) : Int)) - (Int.toNat (IntKind.wrap IntKind.i64 ((((List.length (List.take ((List.length xs) + 1) (List.drop 0 (xs ++ [[(D.int IntKind.i64 (IntKind.wrap IntKind.i64 (last + (1 : Int)))), (D.int IntKind.i64 k), (D.int IntKind.i64 n), (D.int IntKind.i64 w)]])))) : Nat) : Int) - (40 : Int))))) (List.drop (Int.toNat (IntKind.wrap IntKind.i64 ((((List.length (List.take ((List.length xs) + 1) (List.drop 0 (xs ++ [[(D.int IntKind.i64 (IntKind.wrap IntKind.i64 (last + (1 : Int)))), (D.int IntKind.i64 k), (D.int IntKind.i64 n), (D.int IntKind.i64 w)]])))) : Nat) : Int) - (40 : Int)))) (List.take ((List.length xs) + 1) (List.drop 0 (xs ++ [[(D.int IntKind.i64 (IntKind.wrap IntKind.i64 (last + (1 : Int)))), (D.int IntKind.i64 k), (D.int IntKind.i64 n), (D.int IntKind.i64 w)]]))))))) :: (AV.dat (D.int IntKind.i64 (IntKind.wrap IntKind.i64 (last + (1 : Int))))) :: (List.map AV.dat c))) :: o2)))
         none
        )
        none
       )
       (some ((AV.dat (D.int IntKind.i64 (IntKind.wrap IntKind.i64 (last + (1 : Int))))), ((Ent.obj ((AV.dat (D.list LK.any 4 (List.take ((List.length xs) + 1) (List.drop 0 (xs ++ [[(D.int IntKind.i64 (IntKind.wrap IntKind.i64 (last + (1 : Int)))), (D.int IntKind.i64 k), (D.int IntKind.i64 n), (D.int IntKind.i64 w)]]))))) :: (AV.dat (D.int IntKind.i64 (IntKind.wrap IntKind.i64 (last + (1 : Int))))) :: (List.map AV.dat c))) :: o2)))
      )
     )
     none
    )
   )
   (rAsk (true && (true && (fits (TI.mk (TK.struct [(0, 2), (1, 3), (2, 3), (3, 30)]) 4 32 [(AV.dat (D.int IntKind.i64 (0 : Int))), (AV.dat (D.int IntKind.i64 (0 : Int))), (AV.dat (D.int IntKind.i64 (0 : Int))), (AV.dat (D.int IntKind.i64 (0 : Int)))] true) ((List.length xs) + 1))))
    (rAsk (wholeB false 0 ((List.length xs) + 1) (List.length (xs ++ [[(D.int IntKind.i64 (IntKind.wrap IntKind.i64 (last + (1 : Int)))), (D.int IntKind.i64 k), (D.int IntKind.i64 n), (D.int IntKind.i64 w)]])))
     (rAsk (decide ((((List.length (xs ++ [[(D.int IntKind.i64 (IntKind.wrap IntKind.i64 (last + (1 : Int)))), (D.int IntKind.i64 k), (D.int IntKind.i64 n), (D.int IntKind.i64 w)]])) : Nat) : Int) > (40 : Int)))
      (rAsk ((decide ((0 : Int) ≤ (IntKind.wrap IntKind.i64 ((((List.length (xs ++ [[(D.int IntKind.i64 (IntKind.wrap IntKind.i64 (last + (1 : Int)))), (D.int IntKind.i64 k), (D.int IntKind.i64 n), (D.int IntKind.i64 w)]])) : Nat) : Int) - (40 : Int))))) && ((decide ((IntKind.wrap IntKind.i64 ((((List.length (xs ++ [[(D.int IntKind.i64 (IntKind.wrap IntKind.i64 (last + (1 : Int)))), (D.int IntKind.i64 k), (D.int IntKind.i64 n), (D.int IntKind.i64 w)]])) : Nat) : Int) - (40 : Int))) ≤ (((List.length (xs ++ [[(D.int IntKind.i64 (IntKind.wrap IntKind.i64 (last + (1 : Int)))), (D.int IntKind.i64 k), (D.int IntKind.i64 n), (D.int IntKind.i64 w)]])) : Nat) : Int))) && (decide ((((List.length (xs ++ [[(D.int IntKind.i64 (IntKind.wrap IntKind.i64 (last + (1 : Int)))), (D.int IntKind.i64 k), (D.int IntKind.i64 n), (D.int IntKind.i64 w)]])) : Nat) : Int) ≤ (((List.length (xs ++ [[(D.int IntKind.i64 (IntKind.wrap IntKind.i64 (last + (1 : Int)))), (D.int IntKind.i64 k), (D.int IntKind.i64 n), (D.int IntKind.i64 w)]])) : Nat) : Int)))))
       (rAsk ((decide ((((List.length (xs ++ [[(D.int IntKind.i64 (IntKind.wrap IntKind.i64 (last + (1 : Int)))), (D.int IntKind.i64 k), (D.int IntKind.i64 n), (D.int IntKind.i64 w)]])) : Nat) : Int) = (((List.length (xs ++ [[(D.int IntKind.i64 (IntKind.wrap IntKind.i64 (last + (1 : Int)))), (D.int IntKind.i64 k), (D.int IntKind.i64 n), (D.int IntKind.i64 w)]])) : Nat) : Int))) && true)
        (some ((AV.dat (D.int IntKind.i64 (IntKind.wrap IntKind.i64 (last + (1 : Int))))), ((Ent.obj ((AV.dat (D.list LK.full 4 (List.take ((Int.toNat (((List.length (xs ++ [[(D.int IntKind.i64 (IntKind.wrap IntKind.i64 (last + (1 : Int)))), (D.int IntKind.i64 k), (D.int IntKind.i64 n), (D.int IntKind.i64 w)]])) : Nat) : Int)) - (Int.toNat (IntKind.wrap IntKind.i64 ((((List.length (xs ++ [[(D.int IntKind.i64 (IntKind.wrap IntKind.i64 (last + (1 : Int)))), (D.int IntKind.i64 k), (D.int IntKind.i64 n), (D.int IntKind.i64 w)]])) : Nat) : Int) - (40 : Int))))) (List.drop (0 + (Int.toNat (IntKind.wrap IntKind.i64 ((((List.length (xs ++ [[(D.int IntKind.i64 (IntKind.wrap IntKind.i64 (last + (1 : Int)))), (D.int IntKind.i64 k), (D.int IntKind.i64 n), (D.int IntKind.i64 w)]])) : Nat) : Int) - (40 : Int))))) (xs ++ [[(D.int IntKind.i64 (IntKind.wrap IntKind.i64 (last + (1 : Int)))), (D.int IntKind.i64 k), (D.int IntKind.i64 n), (D.int IntKind.i64 w)]]))))) :: (AV.dat (D.int IntKind.i64 (IntKind.wrap IntKind.i64 (last + (1 : Int))))) :: (List.map AV.dat c))) :: o2)))
        none
       )
       none
      )
      (some ((AV.dat (D.int IntKind.i64 (IntKind.wrap IntKind.i64 (last + (1 : Int))))), ((Ent.obj ((AV.rowc Mode.excl 4 (xs ++ [[(D.int IntKind.i64 (IntKind.wrap IntKind.i64 (last + (1 : Int)))), (D.int IntKind.i64 k), (D.int IntKind.i64 n), (D.int IntKind.i64 w)]])) :: (AV.dat (D.int IntKind.i64 (IntKind.wrap IntKind.i64 (last + (1 : Int))))) :: (List.map AV.dat c))) :: o2)))
     )
     (rAsk (decide ((((List.length (List.take ((List.length xs) + 1) (List.drop 0 (xs ++ [[(D.int IntKind.i64 (IntKind.wrap IntKind.i64 (last + (1 : Int)))), (D.int IntKind.i64 k), (D.int IntKind.i64 n), (D.int IntKind.i64 w)]])))) : Nat) : Int) > (40 : Int)))
      (rAsk ((decide ((0 : Int) ≤ (IntKind.wrap IntKind.i64 ((((List.length (List.take ((List.length xs) + 1) (List.drop 0 (xs ++ [[(D.int IntKind.i64 (IntKind.wrap IntKind.i64 (last + (1 : Int)))), (D.int IntKind.i64 k), (D.int IntKind.i64 n), (D.int IntKind.i64 w)]])))) : Nat) : Int) - (40 : Int))))) && ((decide ((IntKind.wrap IntKind.i64 ((((List.length (List.take ((List.length xs) + 1) (List.drop 0 (xs ++ [[(D.int IntKind.i64 (IntKind.wrap IntKind.i64 (last + (1 : Int)))), (D.int IntKind.i64 k), (D.int IntKind.i64 n), (D.int IntKind.i64 w)]])))) : Nat) : Int) - (40 : Int))) ≤ (((List.length (List.take ((List.length xs) + 1) (List.drop 0 (xs ++ [[(D.int IntKind.i64 (IntKind.wrap IntKind.i64 (last + (1 : Int)))), (D.int IntKind.i64 k), (D.int IntKind.i64 n), (D.int IntKind.i64 w)]])))) : Nat) : Int))) && (decide ((((List.length (List.take ((List.length xs) + 1) (List.drop 0 (xs ++ [[(D.int IntKind.i64 (IntKind.wrap IntKind.i64 (last + (1 : Int)))), (D.int IntKind.i64 k), (D.int IntKind.i64 n), (D.int IntKind.i64 w)]])))) : Nat) : Int) ≤ (((List.length (List.take ((List.length xs) + 1) (List.drop 0 (xs ++ [[(D.int IntKind.i64 (IntKind.wrap IntKind.i64 (last + (1 : Int)))), (D.int IntKind.i64 k), (D.int IntKind.i64 n), (D.int IntKind.i64 w)]])))) : Nat) : Int)))))
       (rAsk (true && (true && ((decide ((((List.length (List.take ((List.length xs) + 1) (List.drop 0 (xs ++ [[(D.int IntKind.i64 (IntKind.wrap IntKind.i64 (last + (1 : Int)))), (D.int IntKind.i64 k), (D.int IntKind.i64 n), (D.int IntKind.i64 w)]])))) : Nat) : Int) = (((List.length (List.take ((List.length xs) + 1) (List.drop 0 (xs ++ [[(D.int IntKind.i64 (IntKind.wrap IntKind.i64 (last + (1 : Int)))), (D.int IntKind.i64 k), (D.int IntKind.i64 n), (D.int IntKind.i64 w)]])))) : Nat) : Int))) && true)))
        (some ((AV.dat (D.int IntKind.i64 (IntKind.wrap IntKind.i64 (last + (1 : Int))))), ((Ent.obj ((AV.dat (D.list LK.full 4 (List.take ((Int.toNat (((List.length (List.take ((List.length xs) + 1) (List.drop 0 (xs ++ [[(D.int IntKind.i64 (IntKind.wrap IntKind.i64 (last + (1 : Int)))), (D.int IntKind.i64 k), (D.int IntKind.i64 n), (D.int IntKind.i64 w)]])))) : Nat) : Int)) - (Int.toNat (IntKind.wrap IntKind.i64 ((((List.length (List.take ((List.length xs) + 1) (List.drop 0 (xs ++ [[(D.int IntKind.i64 (IntKind.wrap IntKind.i64 (last + (1 : Int)))), (D.int IntKind.i64 k), (D.int IntKind.i64 n), (D.int IntKind.i64 w)]])))) : Nat) : Int) - (40 : Int))))) (List.drop (Int.toNat (IntKind.wrap IntKind.i64 ((((List.length (List.take ((List.length xs) + 1) (List.drop 0 (xs ++ [[(D.int IntKind.i64 (IntKind.wrap IntKind.i64 (last + (1 : Int)))), (D.int IntKind.i64 k), (D.int IntKind.i64 n), (D.int IntKind.i64 w)]])))) : Nat) : Int) - (40 : Int)))) (List.take ((List.length xs) + 1) (List.drop 0 (xs ++ [[(D.int IntKind.i64 (IntKind.wrap IntKind.i64 (last + (1 : Int)))), (D.int IntKind.i64 k), (D.int IntKind.i64 n), (D.int IntKind.i64 w)]]))))))) :: (AV.dat (D.int IntKind.i64 (IntKind.wrap IntKind.i64 (last + (1 : Int))))) :: (List.map AV.dat c))) :: o2)))
        none
       )
       none
      )
      (some ((AV.dat (D.int IntKind.i64 (IntKind.wrap IntKind.i64 (last + (1 : Int))))), ((Ent.obj ((AV.dat (D.list LK.any 4 (List.take ((List.length xs) + 1) (List.drop 0 (xs ++ [[(D.int IntKind.i64 (IntKind.wrap IntKind.i64 (last + (1 : Int)))), (D.int IntKind.i64 k), (D.int IntKind.i64 n), (D.int IntKind.i64 w)]]))))) :: (AV.dat (D.int IntKind.i64 (IntKind.wrap IntKind.i64 (last + (1 : Int))))) :: (List.map AV.dat c))) :: o2)))
     )
    )
    none
   )
  )
  := by kernel_rfl

theorem wrapI {n : Int} (h : -9223372036854775808 ≤ n ∧ n ≤ 9223372036854775807) : IntKind.wrap .i64 n = n := IntWalk.i64_in n h

theorem fits32 {k : TK} {s : Nat} {z : List AV} {cb : Bool} {n : Nat} (h : n ≤ 1000) : fits (TI.mk k s 32 z cb) n = true := by
  unfold fits
  simp only [Bool.and_eq_true, decide_eq_true_eq]
  omega

theorem whole_snoc {xs : Row} {e : List D} : wholeB false 0 (xs.length + 1) (xs ++ [e]).length = true := wholeB_iff.2 ⟨rfl, by simp, rfl⟩

theorem le_self {n : Nat} : decide (0 + n ≤ n) = true := decide_eq_true (by omega)

/-- an event -/
def evR (s k n w : Int) : List D := [.int .i64 s, .int .i64 k, .int .i64 n, .int .i64 w]

def cR (cs : List Int) : List D := cs.map (D.int .i64)

/-- one more of a kind -/
def bump (cs : List Int) (k : Int) : List Int := if 0 < k ∧ k < 16 then cs.set k.toNat (cs.getD k.toNat 0 + 1) else cs

/-- the last forty -/
def lastR (xs : Row) : Row := xs.drop (xs.length - 40)

def keptA (xs : Row) : AV := if xs.length > 40 then fulA (lastR xs) else rowA .excl xs

theorem cell_cnt {a b : AV} {cs : List Int} {k : Int} (hl : cs.length = 16) (h0 : 0 < k) (h1 : k < 16) : cellD (a :: b :: List.map AV.dat (cR cs)) (k.toNat * 1 + 2) = some (.int .i64 (cs.getD k.toNat 0)) := by
  have hk : k.toNat < cs.length := by omega
  unfold cellD cR
  simp only [Nat.mul_one, List.getElem?_cons_succ, List.getElem?_map, List.getElem?_eq_getElem hk, Option.map_some]
  simp [List.getD_eq_getElem?_getD, List.getElem?_eq_getElem hk]

theorem set_cnt {cs : List Int} {k : Int} {v : Int} : List.set (List.map AV.dat (cR cs)) (k.toNat * 1) (AV.dat (.int .i64 v)) = List.map AV.dat (cR (cs.set k.toNat v)) := by
  unfold cR
  rw [Nat.mul_one, List.map_set, List.map_set]

theorem len_cnt {a b : AV} {cs : List Int} {k : Int} (hl : cs.length = 16) (h0 : 0 < k) (h1 : k < 16) : (decide (k.toNat * 1 + 2 + 1 ≤ (a :: b :: List.map AV.dat (cR cs)).length) && true) = true := by
  simp only [Bool.and_true, decide_eq_true_eq, List.length_cons, List.length_map, cR]
  omega

theorem add0_run {cs : List Int} {k n w : Int} {o2 : List Ent} (hl : cs.length = 16) (hb : ∀ x ∈ cs, 0 ≤ x ∧ x ≤ 1000) :
    (add0 0 (cR cs) k n w o2).run = some (i64 1, tobj (keptA [evR 1 k n w]) 1 (cR (bump cs k)) :: o2) := by
  rw [← Tr.ev_run, add0_eq]
  have hk2 : keptA [evR 1 k n w] = rowA .excl [evR 1 k n w] := rfl
  rw [hk2]
  have w1 : IntKind.wrap .i64 ((0 : Int) + 1) = 1 := rfl
  by_cases h0 : 0 < k
  · by_cases h1 : k < 16
    · have hv : 0 ≤ cs.getD k.toNat 0 ∧ cs.getD k.toNat 0 ≤ 1000 := by
        have hk : k.toNat < cs.length := by omega
        rw [List.getD_eq_getElem?_getD, List.getElem?_eq_getElem hk]
        exact hb _ (List.getElem_mem hk)
      have w2 : IntKind.wrap .i64 (cs.getD k.toNat 0 + 1) = cs.getD k.toNat 0 + 1 := wrapI (by omega)
      simp only [w1, decide_eq_true h0, decide_eq_true h1, decide_eq_true (show (0 : Int) ≤ k by omega), Bool.and_self, rAsk, cell_cnt hl h0 h1, rGet, D.int?, if_true, len_cnt hl h0 h1, w2, set_cnt]
      simp only [bump, if_pos (And.intro h0 h1)]
      rfl
    · simp only [w1, decide_eq_true h0, decide_eq_false h1, rAsk]
      simp only [bump, if_neg (fun h : 0 < k ∧ k < 16 => h1 h.2)]
      rfl
  · simp only [w1, decide_eq_false h0, rAsk]
    simp only [bump, if_neg (fun h : 0 < k ∧ k < 16 => h0 h.1)]
    rfl

theorem add1_run {xs : Row} {last : Int} {cs : List Int} {k n w : Int} {o2 : List Ent} (hx : xs.length ≤ 40) (hla : 0 ≤ last ∧ last ≤ 1000) (hl : cs.length = 16) (hb : ∀ x ∈ cs, 0 ≤ x ∧ x ≤ 1000) :
    (add1 xs last (cR cs) k n w o2).run = some (i64 (last + 1), tobj (keptA (xs ++ [evR (last + 1) k n w])) (last + 1) (cR (bump cs k)) :: o2) := by
  rw [← Tr.ev_run, add1_eq]
  have w1 : IntKind.wrap .i64 (last + 1) = last + 1 := wrapI (by omega)
  have f1 : fits (TI.mk (TK.struct [(0, 2), (1, 3), (2, 3), (3, 30)]) 4 32 [(AV.dat (D.int IntKind.i64 (0 : Int))), (AV.dat (D.int IntKind.i64 (0 : Int))), (AV.dat (D.int IntKind.i64 (0 : Int))), (AV.dat (D.int IntKind.i64 (0 : Int)))] true) ((List.length xs) + 1) = true := fits32 (by omega)
  unfold evR
  simp only [w1, f1, le_self]
  generalize hX : xs ++ [[D.int .i64 (last + 1), D.int .i64 k, D.int .i64 n, D.int .i64 w]] = X
  have hXl : X.length = xs.length + 1 := by rw [← hX]; simp
  have f2 : wholeB false 0 (xs.length + 1) X.length = true := wholeB_iff.2 ⟨rfl, hXl.symm, rfl⟩
  have w3 : IntKind.wrap .i64 ((X.length : Int) - 40) = (X.length : Int) - 40 := wrapI (by omega)
  have f3 : (decide ((X.length : Int) - 40 ≤ (X.length : Int))) = true := decide_eq_true (by omega)
  have f4 : ((X.length : Int) - 40).toNat = X.length - 40 := by omega
  have f5 : List.take (X.length - (X.length - 40)) (List.drop (0 + (X.length - 40)) X) = lastR X := by
    unfold lastR
    rw [Nat.zero_add, List.take_of_length_le (by simp)]
  simp only [f2, w3, f3, f4, f5, Int.toNat_natCast, decide_true, Int.le_refl, Bool.and_self, rAsk]
  by_cases h4 : X.length > 40
  · have g1 : decide ((X.length : Int) > 40) = true := decide_eq_true (by omega)
    have g2 : decide ((0 : Int) ≤ (X.length : Int) - 40) = true := decide_eq_true (by omega)
    have g3 : keptA X = fulA (lastR X) := by unfold keptA; rw [if_pos h4]
    rw [g3]
    simp only [g1, g2, Bool.and_self]
    by_cases h0 : 0 < k
    · by_cases h1 : k < 16
      · have hv : 0 ≤ cs.getD k.toNat 0 ∧ cs.getD k.toNat 0 ≤ 1000 := by
          have hk : k.toNat < cs.length := by omega
          rw [List.getD_eq_getElem?_getD, List.getElem?_eq_getElem hk]
          exact hb _ (List.getElem_mem hk)
        have w2 : IntKind.wrap .i64 (cs.getD k.toNat 0 + 1) = cs.getD k.toNat 0 + 1 := wrapI (by omega)
        simp only [decide_eq_true h0, decide_eq_true h1, decide_eq_true (show (0 : Int) ≤ k by omega), Bool.and_self, cell_cnt hl h0 h1, rGet, D.int?, if_true, len_cnt hl h0 h1, w2, set_cnt]
        simp only [bump, if_pos (And.intro h0 h1)]
        rfl
      · simp only [decide_eq_true h0, decide_eq_false h1]
        simp only [bump, if_neg (fun h : 0 < k ∧ k < 16 => h1 h.2)]
        rfl
    · simp only [decide_eq_false h0]
      simp only [bump, if_neg (fun h : 0 < k ∧ k < 16 => h0 h.1)]
      rfl
  · have g1 : decide ((X.length : Int) > 40) = false := decide_eq_false (by omega)
    have g3 : keptA X = rowA .excl X := by unfold keptA; rw [if_neg h4]
    rw [g3]
    simp only [g1]
    by_cases h0 : 0 < k
    · by_cases h1 : k < 16
      · have hv : 0 ≤ cs.getD k.toNat 0 ∧ cs.getD k.toNat 0 ≤ 1000 := by
          have hk : k.toNat < cs.length := by omega
          rw [List.getD_eq_getElem?_getD, List.getElem?_eq_getElem hk]
          exact hb _ (List.getElem_mem hk)
        have w2 : IntKind.wrap .i64 (cs.getD k.toNat 0 + 1) = cs.getD k.toNat 0 + 1 := wrapI (by omega)
        simp only [decide_eq_true h0, decide_eq_true h1, decide_eq_true (show (0 : Int) ≤ k by omega), Bool.and_self, cell_cnt hl h0 h1, rGet, D.int?, if_true, len_cnt hl h0 h1, w2, set_cnt]
        simp only [bump, if_pos (And.intro h0 h1)]
        rfl
      · simp only [decide_eq_true h0, decide_eq_false h1]
        simp only [bump, if_neg (fun h : 0 < k ∧ k < 16 => h1 h.2)]
        rfl
    · simp only [decide_eq_false h0]
      simp only [bump, if_neg (fun h : 0 < k ∧ k < 16 => h0 h.1)]
      rfl

theorem add2_run {xs : Row} {last : Int} {cs : List Int} {k n w : Int} {o2 : List Ent} (hx : xs.length ≤ 40) (hla : 0 ≤ last ∧ last ≤ 1000) (hl : cs.length = 16) (hb : ∀ x ∈ cs, 0 ≤ x ∧ x ≤ 1000) :
    (add2 xs last (cR cs) k n w o2).run = some (i64 (last + 1), tobj (keptA (xs ++ [evR (last + 1) k n w])) (last + 1) (cR (bump cs k)) :: o2) := by
  rw [← Tr.ev_run, add2_eq]
  have w1 : IntKind.wrap .i64 (last + 1) = last + 1 := wrapI (by omega)
  have f1 : fits (TI.mk (TK.struct [(0, 2), (1, 3), (2, 3), (3, 30)]) 4 32 [(AV.dat (D.int IntKind.i64 (0 : Int))), (AV.dat (D.int IntKind.i64 (0 : Int))), (AV.dat (D.int IntKind.i64 (0 : Int))), (AV.dat (D.int IntKind.i64 (0 : Int)))] true) ((List.length xs) + 1) = true := fits32 (by omega)
  unfold evR
  simp only [w1, f1, le_self]
  generalize hX : xs ++ [[D.int .i64 (last + 1), D.int .i64 k, D.int .i64 n, D.int .i64 w]] = X
  have hXl : X.length = xs.length + 1 := by rw [← hX]; simp
  have f2 : wholeB false 0 (xs.length + 1) X.length = true := wholeB_iff.2 ⟨rfl, hXl.symm, rfl⟩
  have w3 : IntKind.wrap .i64 ((X.length : Int) - 40) = (X.length : Int) - 40 := wrapI (by omega)
  have f3 : (decide ((X.length : Int) - 40 ≤ (X.length : Int))) = true := decide_eq_true (by omega)
  have f4 : ((X.length : Int) - 40).toNat = X.length - 40 := by omega
  have f5 : List.take (X.length - (X.length - 40)) (List.drop (0 + (X.length - 40)) X) = lastR X := by
    unfold lastR
    rw [Nat.zero_add, List.take_of_length_le (by simp)]
  simp only [f2, w3, f3, f4, f5, Int.toNat_natCast, decide_true, Int.le_refl, Bool.and_self, rAsk]
  by_cases h4 : X.length > 40
  · have g1 : decide ((X.length : Int) > 40) = true := decide_eq_true (by omega)
    have g2 : decide ((0 : Int) ≤ (X.length : Int) - 40) = true := decide_eq_true (by omega)
    have g3 : keptA X = fulA (lastR X) := by unfold keptA; rw [if_pos h4]
    rw [g3]
    simp only [g1, g2, Bool.and_self]
    by_cases h0 : 0 < k
    · by_cases h1 : k < 16
      · have hv : 0 ≤ cs.getD k.toNat 0 ∧ cs.getD k.toNat 0 ≤ 1000 := by
          have hk : k.toNat < cs.length := by omega
          rw [List.getD_eq_getElem?_getD, List.getElem?_eq_getElem hk]
          exact hb _ (List.getElem_mem hk)
        have w2 : IntKind.wrap .i64 (cs.getD k.toNat 0 + 1) = cs.getD k.toNat 0 + 1 := wrapI (by omega)
        simp only [decide_eq_true h0, decide_eq_true h1, decide_eq_true (show (0 : Int) ≤ k by omega), Bool.and_self, cell_cnt hl h0 h1, rGet, D.int?, if_true, len_cnt hl h0 h1, w2, set_cnt]
        simp only [bump, if_pos (And.intro h0 h1)]
        rfl
      · simp only [decide_eq_true h0, decide_eq_false h1]
        simp only [bump, if_neg (fun h : 0 < k ∧ k < 16 => h1 h.2)]
        rfl
    · simp only [decide_eq_false h0]
      simp only [bump, if_neg (fun h : 0 < k ∧ k < 16 => h0 h.1)]
      rfl
  · have g1 : decide ((X.length : Int) > 40) = false := decide_eq_false (by omega)
    have g3 : keptA X = rowA .excl X := by unfold keptA; rw [if_neg h4]
    rw [g3]
    simp only [g1]
    by_cases h0 : 0 < k
    · by_cases h1 : k < 16
      · have hv : 0 ≤ cs.getD k.toNat 0 ∧ cs.getD k.toNat 0 ≤ 1000 := by
          have hk : k.toNat < cs.length := by omega
          rw [List.getD_eq_getElem?_getD, List.getElem?_eq_getElem hk]
          exact hb _ (List.getElem_mem hk)
        have w2 : IntKind.wrap .i64 (cs.getD k.toNat 0 + 1) = cs.getD k.toNat 0 + 1 := wrapI (by omega)
        simp only [decide_eq_true h0, decide_eq_true h1, decide_eq_true (show (0 : Int) ≤ k by omega), Bool.and_self, cell_cnt hl h0 h1, rGet, D.int?, if_true, len_cnt hl h0 h1, w2, set_cnt]
        simp only [bump, if_pos (And.intro h0 h1)]
        rfl
      · simp only [decide_eq_true h0, decide_eq_false h1]
        simp only [bump, if_neg (fun h : 0 < k ∧ k < 16 => h1 h.2)]
        rfl
    · simp only [decide_eq_false h0]
      simp only [bump, if_neg (fun h : 0 < k ∧ k < 16 => h0 h.1)]
      rfl

end Go.Eng
