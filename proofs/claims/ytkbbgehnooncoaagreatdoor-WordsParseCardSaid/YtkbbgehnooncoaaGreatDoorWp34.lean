/- Steps as lines: the document's Line is lineS, kind by kind (printed by gensw4.py). -/
import Derived.Test.YtkbbgehnooncoaaGreatDoorWp33
section
namespace Go.Eng
open Go
set_option maxRecDepth 100000
set_option linter.unusedSimpArgs false
set_option linter.unusedVariables false

theorem q8_1_eq (nd a n : Int) (d : ByteArray) (s : Int) (lk : LK) (z : Nat) (l : Row) : (q8_1 nd a n d s lk z l).ev =
 --folded
 (rAsk (decide (s < (0 : Int))) (eW 6)
 (rAsk (decide (s > (0 : Int)))
 (rGet (fnS (oSt []) (P224 [(stA (1 : Int) nd a n d s lk z l)] [])) fun x1 =>
 (rGet (fnS (oB []) (P210 [(stA (1 : Int) nd a n d s lk z l), (stA x1.1 x1.2.1 x1.2.2.1 x1.2.2.2.1 x1.2.2.2.2.1 x1.2.2.2.2.2.1 x1.2.2.2.2.2.2.1 x1.2.2.2.2.2.2.2.1 x1.2.2.2.2.2.2.2.2)] [])) fun x2 =>
 (rAsk (!x2) (eW 6)
 (rGet (fnS (oRw []) (P225 [] [])) fun x3 =>
 (rAsk (true && (true && (decide ((1 : Int) < (((List.length x3) : Nat) : Int)))))
 (rGet x3[1]? fun x4 =>
 (rGet (List.head? (List.drop 0 x4)) fun x5 =>
 (rGet (D.str? x5) fun x6 =>
 (rAsk (bleW ((ByteArray.size x6) + 1))
 (rGet (fnS (oS []) (P118 [(jn a)] [])) fun x7 =>
 (rAsk (bleW ((ByteArray.size (x6 ++ (ba [32]))) + (ByteArray.size x7)))
 (rAsk (decide (s > (0 : Int)))
 (rGet (fnS (oS []) (P118 [(jn s)] [])) fun x8 =>
 (rAsk (bleW (5 + (ByteArray.size x8)))
 (rAsk (bleW ((ByteArray.size ((ba [115, 116, 111, 112, 32]) ++ x8)) + 1))
 (rGet (fnS (oS []) (P215 [(AV.dat (D.list lk z l))] [])) fun x9 =>
 (rAsk (bleW ((ByteArray.size (((ba [115, 116, 111, 112, 32]) ++ x8) ++ (ba [32]))) + (ByteArray.size x9)))
 (rAsk (bleW ((ByteArray.size ((((ba [115, 116, 111, 112, 32]) ++ x8) ++ (ba [32])) ++ x9)) + 1))
 (rAsk (bleW ((ByteArray.size (((((ba [115, 116, 111, 112, 32]) ++ x8) ++ (ba [32])) ++ x9) ++ (ba [32]))) + (ByteArray.size ((x6 ++ (ba [32])) ++ x7))))
 (rAsk (decide ((((ByteArray.size ((((((ba [115, 116, 111, 112, 32]) ++ x8) ++ (ba [32])) ++ x9) ++ (ba [32])) ++ ((x6 ++ (ba [32])) ++ x7))) : Nat) : Int) > (300 : Int))) (eW 8) (vW ((((((ba [115, 116, 111, 112, 32]) ++ x8) ++ (ba [32])) ++ x9) ++ (ba [32])) ++ ((x6 ++ (ba [32])) ++ x7)))) none) none) none)) none) none))
 (rAsk (decide ((((ByteArray.size ((x6 ++ (ba [32])) ++ x7)) : Nat) : Int) > (300 : Int))) (eW 8) (vW ((x6 ++ (ba [32])) ++ x7)))) none)) none)))) none)))))
 (rGet (fnS (oSt []) (P224 [(stA (1 : Int) nd a n d s lk z l)] [])) fun x10 =>
 (rGet (fnS (oB []) (P210 [(stA (1 : Int) nd a n d s lk z l), (stA x10.1 x10.2.1 x10.2.2.1 x10.2.2.2.1 x10.2.2.2.2.1 x10.2.2.2.2.2.1 x10.2.2.2.2.2.2.1 x10.2.2.2.2.2.2.2.1 x10.2.2.2.2.2.2.2.2)] [])) fun x11 =>
 (rAsk (!x11) (eW 6)
 (rGet (fnS (oRw []) (P225 [] [])) fun x12 =>
 (rAsk (true && (true && (decide ((1 : Int) < (((List.length x12) : Nat) : Int)))))
 (rGet x12[1]? fun x13 =>
 (rGet (List.head? (List.drop 0 x13)) fun x14 =>
 (rGet (D.str? x14) fun x15 =>
 (rAsk (bleW ((ByteArray.size x15) + 1))
 (rGet (fnS (oS []) (P118 [(jn a)] [])) fun x16 =>
 (rAsk (bleW ((ByteArray.size (x15 ++ (ba [32]))) + (ByteArray.size x16)))
 (rAsk (decide (s > (0 : Int)))
 (rGet (fnS (oS []) (P118 [(jn s)] [])) fun x17 =>
 (rAsk (bleW (5 + (ByteArray.size x17)))
 (rAsk (bleW ((ByteArray.size ((ba [115, 116, 111, 112, 32]) ++ x17)) + 1))
 (rGet (fnS (oS []) (P215 [(AV.dat (D.list lk z l))] [])) fun x18 =>
 (rAsk (bleW ((ByteArray.size (((ba [115, 116, 111, 112, 32]) ++ x17) ++ (ba [32]))) + (ByteArray.size x18)))
 (rAsk (bleW ((ByteArray.size ((((ba [115, 116, 111, 112, 32]) ++ x17) ++ (ba [32])) ++ x18)) + 1))
 (rAsk (bleW ((ByteArray.size (((((ba [115, 116, 111, 112, 32]) ++ x17) ++ (ba [32])) ++ x18) ++ (ba [32]))) + (ByteArray.size ((x15 ++ (ba [32])) ++ x16))))
 (rAsk (decide ((((ByteArray.size ((((((ba [115, 116, 111, 112, 32]) ++ x17) ++ (ba [32])) ++ x18) ++ (ba [32])) ++ ((x15 ++ (ba [32])) ++ x16))) : Nat) : Int) > (300 : Int))) (eW 8) (vW ((((((ba [115, 116, 111, 112, 32]) ++ x17) ++ (ba [32])) ++ x18) ++ (ba [32])) ++ ((x15 ++ (ba [32])) ++ x16)))) none) none) none)) none) none))
 (rAsk (decide ((((ByteArray.size ((x15 ++ (ba [32])) ++ x16)) : Nat) : Int) > (300 : Int))) (eW 8) (vW ((x15 ++ (ba [32])) ++ x16)))) none)) none)))) none)))))))
  := by kernel_rfl
theorem q8_2_eq (nd a n : Int) (d : ByteArray) (s : Int) (lk : LK) (z : Nat) (l : Row) : (q8_2 nd a n d s lk z l).ev =
 --folded
 (rAsk (decide (s < (0 : Int))) (eW 6)
 (rAsk (decide (s > (0 : Int)))
 (rGet (fnS (oB []) (P223 [(dS d)] [])) fun x1 =>
 (rAsk (!x1) (eW 6)
 (rGet (fnS (oSt []) (P224 [(stA (2 : Int) nd a n d s lk z l)] [])) fun x2 =>
 (rGet (fnS (oB []) (P210 [(stA (2 : Int) nd a n d s lk z l), (stA x2.1 x2.2.1 x2.2.2.1 x2.2.2.2.1 x2.2.2.2.2.1 x2.2.2.2.2.2.1 x2.2.2.2.2.2.2.1 x2.2.2.2.2.2.2.2.1 x2.2.2.2.2.2.2.2.2)] [])) fun x3 =>
 (rAsk (!x3) (eW 6)
 (rGet (fnS (oRw []) (P225 [] [])) fun x4 =>
 (rAsk (true && (true && (decide ((2 : Int) < (((List.length x4) : Nat) : Int)))))
 (rGet x4[2]? fun x5 =>
 (rGet (List.head? (List.drop 0 x5)) fun x6 =>
 (rGet (D.str? x6) fun x7 =>
 (rAsk (bleW ((ByteArray.size x7) + 1))
 (rGet (fnS (oS []) (P118 [(jn a)] [])) fun x8 =>
 (rAsk (bleW ((ByteArray.size (x7 ++ (ba [32]))) + (ByteArray.size x8)))
 (rAsk (bleW ((ByteArray.size ((x7 ++ (ba [32])) ++ x8)) + 1))
 (rGet (fnS (oS []) (P10 [(dS d)] [])) fun x9 =>
 (rAsk (bleW ((ByteArray.size (((x7 ++ (ba [32])) ++ x8) ++ (ba [32]))) + (ByteArray.size x9)))
 (rAsk (decide (s > (0 : Int)))
 (rGet (fnS (oS []) (P118 [(jn s)] [])) fun x10 =>
 (rAsk (bleW (5 + (ByteArray.size x10)))
 (rAsk (bleW ((ByteArray.size ((ba [115, 116, 111, 112, 32]) ++ x10)) + 1))
 (rGet (fnS (oS []) (P215 [(AV.dat (D.list lk z l))] [])) fun x11 =>
 (rAsk (bleW ((ByteArray.size (((ba [115, 116, 111, 112, 32]) ++ x10) ++ (ba [32]))) + (ByteArray.size x11)))
 (rAsk (bleW ((ByteArray.size ((((ba [115, 116, 111, 112, 32]) ++ x10) ++ (ba [32])) ++ x11)) + 1))
 (rAsk (bleW ((ByteArray.size (((((ba [115, 116, 111, 112, 32]) ++ x10) ++ (ba [32])) ++ x11) ++ (ba [32]))) + (ByteArray.size ((((x7 ++ (ba [32])) ++ x8) ++ (ba [32])) ++ x9))))
 (rAsk (decide ((((ByteArray.size ((((((ba [115, 116, 111, 112, 32]) ++ x10) ++ (ba [32])) ++ x11) ++ (ba [32])) ++ ((((x7 ++ (ba [32])) ++ x8) ++ (ba [32])) ++ x9))) : Nat) : Int) > (300 : Int))) (eW 8) (vW ((((((ba [115, 116, 111, 112, 32]) ++ x10) ++ (ba [32])) ++ x11) ++ (ba [32])) ++ ((((x7 ++ (ba [32])) ++ x8) ++ (ba [32])) ++ x9)))) none) none) none)) none) none))
 (rAsk (decide ((((ByteArray.size ((((x7 ++ (ba [32])) ++ x8) ++ (ba [32])) ++ x9)) : Nat) : Int) > (300 : Int))) (eW 8) (vW ((((x7 ++ (ba [32])) ++ x8) ++ (ba [32])) ++ x9)))) none)) none) none)) none)))) none)))))))
 (rGet (fnS (oB []) (P223 [(dS d)] [])) fun x12 =>
 (rAsk (!x12) (eW 6)
 (rGet (fnS (oSt []) (P224 [(stA (2 : Int) nd a n d s lk z l)] [])) fun x13 =>
 (rGet (fnS (oB []) (P210 [(stA (2 : Int) nd a n d s lk z l), (stA x13.1 x13.2.1 x13.2.2.1 x13.2.2.2.1 x13.2.2.2.2.1 x13.2.2.2.2.2.1 x13.2.2.2.2.2.2.1 x13.2.2.2.2.2.2.2.1 x13.2.2.2.2.2.2.2.2)] [])) fun x14 =>
 (rAsk (!x14) (eW 6)
 (rGet (fnS (oRw []) (P225 [] [])) fun x15 =>
 (rAsk (true && (true && (decide ((2 : Int) < (((List.length x15) : Nat) : Int)))))
 (rGet x15[2]? fun x16 =>
 (rGet (List.head? (List.drop 0 x16)) fun x17 =>
 (rGet (D.str? x17) fun x18 =>
 (rAsk (bleW ((ByteArray.size x18) + 1))
 (rGet (fnS (oS []) (P118 [(jn a)] [])) fun x19 =>
 (rAsk (bleW ((ByteArray.size (x18 ++ (ba [32]))) + (ByteArray.size x19)))
 (rAsk (bleW ((ByteArray.size ((x18 ++ (ba [32])) ++ x19)) + 1))
 (rGet (fnS (oS []) (P10 [(dS d)] [])) fun x20 =>
 (rAsk (bleW ((ByteArray.size (((x18 ++ (ba [32])) ++ x19) ++ (ba [32]))) + (ByteArray.size x20)))
 (rAsk (decide (s > (0 : Int)))
 (rGet (fnS (oS []) (P118 [(jn s)] [])) fun x21 =>
 (rAsk (bleW (5 + (ByteArray.size x21)))
 (rAsk (bleW ((ByteArray.size ((ba [115, 116, 111, 112, 32]) ++ x21)) + 1))
 (rGet (fnS (oS []) (P215 [(AV.dat (D.list lk z l))] [])) fun x22 =>
 (rAsk (bleW ((ByteArray.size (((ba [115, 116, 111, 112, 32]) ++ x21) ++ (ba [32]))) + (ByteArray.size x22)))
 (rAsk (bleW ((ByteArray.size ((((ba [115, 116, 111, 112, 32]) ++ x21) ++ (ba [32])) ++ x22)) + 1))
 (rAsk (bleW ((ByteArray.size (((((ba [115, 116, 111, 112, 32]) ++ x21) ++ (ba [32])) ++ x22) ++ (ba [32]))) + (ByteArray.size ((((x18 ++ (ba [32])) ++ x19) ++ (ba [32])) ++ x20))))
 (rAsk (decide ((((ByteArray.size ((((((ba [115, 116, 111, 112, 32]) ++ x21) ++ (ba [32])) ++ x22) ++ (ba [32])) ++ ((((x18 ++ (ba [32])) ++ x19) ++ (ba [32])) ++ x20))) : Nat) : Int) > (300 : Int))) (eW 8) (vW ((((((ba [115, 116, 111, 112, 32]) ++ x21) ++ (ba [32])) ++ x22) ++ (ba [32])) ++ ((((x18 ++ (ba [32])) ++ x19) ++ (ba [32])) ++ x20)))) none) none) none)) none) none))
 (rAsk (decide ((((ByteArray.size ((((x18 ++ (ba [32])) ++ x19) ++ (ba [32])) ++ x20)) : Nat) : Int) > (300 : Int))) (eW 8) (vW ((((x18 ++ (ba [32])) ++ x19) ++ (ba [32])) ++ x20)))) none)) none) none)) none)))) none)))))))))
  := by kernel_rfl
theorem q8_3_eq (nd a n : Int) (d : ByteArray) (s : Int) (lk : LK) (z : Nat) (l : Row) : (q8_3 nd a n d s lk z l).ev =
 --folded
 (rAsk (decide (s < (0 : Int))) (eW 6)
 (rAsk (decide (s > (0 : Int)))
 (rGet (fnS (oSt []) (P224 [(stA (3 : Int) nd a n d s lk z l)] [])) fun x1 =>
 (rGet (fnS (oB []) (P210 [(stA (3 : Int) nd a n d s lk z l), (stA x1.1 x1.2.1 x1.2.2.1 x1.2.2.2.1 x1.2.2.2.2.1 x1.2.2.2.2.2.1 x1.2.2.2.2.2.2.1 x1.2.2.2.2.2.2.2.1 x1.2.2.2.2.2.2.2.2)] [])) fun x2 =>
 (rAsk (!x2) (eW 6)
 (rGet (fnS (oRw []) (P225 [] [])) fun x3 =>
 (rAsk (true && (true && (decide ((3 : Int) < (((List.length x3) : Nat) : Int)))))
 (rGet x3[3]? fun x4 =>
 (rGet (List.head? (List.drop 0 x4)) fun x5 =>
 (rAsk (decide (s > (0 : Int)))
 (rGet (fnS (oS []) (P118 [(jn s)] [])) fun x6 =>
 (rAsk (bleW (5 + (ByteArray.size x6)))
 (rAsk (bleW ((ByteArray.size ((ba [115, 116, 111, 112, 32]) ++ x6)) + 1))
 (rGet (fnS (oS []) (P215 [(AV.dat (D.list lk z l))] [])) fun x7 =>
 (rAsk (bleW ((ByteArray.size (((ba [115, 116, 111, 112, 32]) ++ x6) ++ (ba [32]))) + (ByteArray.size x7)))
 (rAsk (bleW ((ByteArray.size ((((ba [115, 116, 111, 112, 32]) ++ x6) ++ (ba [32])) ++ x7)) + 1))
 (rGet (D.str? x5) fun x8 =>
 (rAsk (bleW ((ByteArray.size (((((ba [115, 116, 111, 112, 32]) ++ x6) ++ (ba [32])) ++ x7) ++ (ba [32]))) + (ByteArray.size x8)))
 (rAsk (decide ((((ByteArray.size ((((((ba [115, 116, 111, 112, 32]) ++ x6) ++ (ba [32])) ++ x7) ++ (ba [32])) ++ x8)) : Nat) : Int) > (300 : Int))) (eW 8) (vW ((((((ba [115, 116, 111, 112, 32]) ++ x6) ++ (ba [32])) ++ x7) ++ (ba [32])) ++ x8))) none)) none) none)) none) none))
 (rGet (D.str? x5) fun x9 =>
 (rAsk (decide ((((ByteArray.size x9) : Nat) : Int) > (300 : Int))) (eW 8) (some ((AV.tup [(AV.dat x5), (jn (0 : Int))]), []))))))) none)))))
 (rGet (fnS (oSt []) (P224 [(stA (3 : Int) nd a n d s lk z l)] [])) fun x10 =>
 (rGet (fnS (oB []) (P210 [(stA (3 : Int) nd a n d s lk z l), (stA x10.1 x10.2.1 x10.2.2.1 x10.2.2.2.1 x10.2.2.2.2.1 x10.2.2.2.2.2.1 x10.2.2.2.2.2.2.1 x10.2.2.2.2.2.2.2.1 x10.2.2.2.2.2.2.2.2)] [])) fun x11 =>
 (rAsk (!x11) (eW 6)
 (rGet (fnS (oRw []) (P225 [] [])) fun x12 =>
 (rAsk (true && (true && (decide ((3 : Int) < (((List.length x12) : Nat) : Int)))))
 (rGet x12[3]? fun x13 =>
 (rGet (List.head? (List.drop 0 x13)) fun x14 =>
 (rAsk (decide (s > (0 : Int)))
 (rGet (fnS (oS []) (P118 [(jn s)] [])) fun x15 =>
 (rAsk (bleW (5 + (ByteArray.size x15)))
 (rAsk (bleW ((ByteArray.size ((ba [115, 116, 111, 112, 32]) ++ x15)) + 1))
 (rGet (fnS (oS []) (P215 [(AV.dat (D.list lk z l))] [])) fun x16 =>
 (rAsk (bleW ((ByteArray.size (((ba [115, 116, 111, 112, 32]) ++ x15) ++ (ba [32]))) + (ByteArray.size x16)))
 (rAsk (bleW ((ByteArray.size ((((ba [115, 116, 111, 112, 32]) ++ x15) ++ (ba [32])) ++ x16)) + 1))
 (rGet (D.str? x14) fun x17 =>
 (rAsk (bleW ((ByteArray.size (((((ba [115, 116, 111, 112, 32]) ++ x15) ++ (ba [32])) ++ x16) ++ (ba [32]))) + (ByteArray.size x17)))
 (rAsk (decide ((((ByteArray.size ((((((ba [115, 116, 111, 112, 32]) ++ x15) ++ (ba [32])) ++ x16) ++ (ba [32])) ++ x17)) : Nat) : Int) > (300 : Int))) (eW 8) (vW ((((((ba [115, 116, 111, 112, 32]) ++ x15) ++ (ba [32])) ++ x16) ++ (ba [32])) ++ x17))) none)) none) none)) none) none))
 (rGet (D.str? x14) fun x18 =>
 (rAsk (decide ((((ByteArray.size x18) : Nat) : Int) > (300 : Int))) (eW 8) (some ((AV.tup [(AV.dat x14), (jn (0 : Int))]), []))))))) none)))))))
  := by kernel_rfl
theorem q8_4_eq (nd a n : Int) (d : ByteArray) (s : Int) (lk : LK) (z : Nat) (l : Row) : (q8_4 nd a n d s lk z l).ev =
 --folded
 (rAsk (decide (s < (0 : Int))) (eW 6)
 (rAsk (decide (s > (0 : Int)))
 (rGet (fnS (oSt []) (P224 [(stA (4 : Int) nd a n d s lk z l)] [])) fun x1 =>
 (rGet (fnS (oB []) (P210 [(stA (4 : Int) nd a n d s lk z l), (stA x1.1 x1.2.1 x1.2.2.1 x1.2.2.2.1 x1.2.2.2.2.1 x1.2.2.2.2.2.1 x1.2.2.2.2.2.2.1 x1.2.2.2.2.2.2.2.1 x1.2.2.2.2.2.2.2.2)] [])) fun x2 =>
 (rAsk (!x2) (eW 6)
 (rGet (fnS (oRw []) (P225 [] [])) fun x3 =>
 (rAsk (true && (true && (decide ((4 : Int) < (((List.length x3) : Nat) : Int)))))
 (rGet x3[4]? fun x4 =>
 (rGet (List.head? (List.drop 0 x4)) fun x5 =>
 (rAsk (decide (s > (0 : Int)))
 (rGet (fnS (oS []) (P118 [(jn s)] [])) fun x6 =>
 (rAsk (bleW (5 + (ByteArray.size x6)))
 (rAsk (bleW ((ByteArray.size ((ba [115, 116, 111, 112, 32]) ++ x6)) + 1))
 (rGet (fnS (oS []) (P215 [(AV.dat (D.list lk z l))] [])) fun x7 =>
 (rAsk (bleW ((ByteArray.size (((ba [115, 116, 111, 112, 32]) ++ x6) ++ (ba [32]))) + (ByteArray.size x7)))
 (rAsk (bleW ((ByteArray.size ((((ba [115, 116, 111, 112, 32]) ++ x6) ++ (ba [32])) ++ x7)) + 1))
 (rGet (D.str? x5) fun x8 =>
 (rAsk (bleW ((ByteArray.size (((((ba [115, 116, 111, 112, 32]) ++ x6) ++ (ba [32])) ++ x7) ++ (ba [32]))) + (ByteArray.size x8)))
 (rAsk (decide ((((ByteArray.size ((((((ba [115, 116, 111, 112, 32]) ++ x6) ++ (ba [32])) ++ x7) ++ (ba [32])) ++ x8)) : Nat) : Int) > (300 : Int))) (eW 8) (vW ((((((ba [115, 116, 111, 112, 32]) ++ x6) ++ (ba [32])) ++ x7) ++ (ba [32])) ++ x8))) none)) none) none)) none) none))
 (rGet (D.str? x5) fun x9 =>
 (rAsk (decide ((((ByteArray.size x9) : Nat) : Int) > (300 : Int))) (eW 8) (some ((AV.tup [(AV.dat x5), (jn (0 : Int))]), []))))))) none)))))
 (rGet (fnS (oSt []) (P224 [(stA (4 : Int) nd a n d s lk z l)] [])) fun x10 =>
 (rGet (fnS (oB []) (P210 [(stA (4 : Int) nd a n d s lk z l), (stA x10.1 x10.2.1 x10.2.2.1 x10.2.2.2.1 x10.2.2.2.2.1 x10.2.2.2.2.2.1 x10.2.2.2.2.2.2.1 x10.2.2.2.2.2.2.2.1 x10.2.2.2.2.2.2.2.2)] [])) fun x11 =>
 (rAsk (!x11) (eW 6)
 (rGet (fnS (oRw []) (P225 [] [])) fun x12 =>
 (rAsk (true && (true && (decide ((4 : Int) < (((List.length x12) : Nat) : Int)))))
 (rGet x12[4]? fun x13 =>
 (rGet (List.head? (List.drop 0 x13)) fun x14 =>
 (rAsk (decide (s > (0 : Int)))
 (rGet (fnS (oS []) (P118 [(jn s)] [])) fun x15 =>
 (rAsk (bleW (5 + (ByteArray.size x15)))
 (rAsk (bleW ((ByteArray.size ((ba [115, 116, 111, 112, 32]) ++ x15)) + 1))
 (rGet (fnS (oS []) (P215 [(AV.dat (D.list lk z l))] [])) fun x16 =>
 (rAsk (bleW ((ByteArray.size (((ba [115, 116, 111, 112, 32]) ++ x15) ++ (ba [32]))) + (ByteArray.size x16)))
 (rAsk (bleW ((ByteArray.size ((((ba [115, 116, 111, 112, 32]) ++ x15) ++ (ba [32])) ++ x16)) + 1))
 (rGet (D.str? x14) fun x17 =>
 (rAsk (bleW ((ByteArray.size (((((ba [115, 116, 111, 112, 32]) ++ x15) ++ (ba [32])) ++ x16) ++ (ba [32]))) + (ByteArray.size x17)))
 (rAsk (decide ((((ByteArray.size ((((((ba [115, 116, 111, 112, 32]) ++ x15) ++ (ba [32])) ++ x16) ++ (ba [32])) ++ x17)) : Nat) : Int) > (300 : Int))) (eW 8) (vW ((((((ba [115, 116, 111, 112, 32]) ++ x15) ++ (ba [32])) ++ x16) ++ (ba [32])) ++ x17))) none)) none) none)) none) none))
 (rGet (D.str? x14) fun x18 =>
 (rAsk (decide ((((ByteArray.size x18) : Nat) : Int) > (300 : Int))) (eW 8) (some ((AV.tup [(AV.dat x14), (jn (0 : Int))]), []))))))) none)))))))
  := by kernel_rfl
theorem q8_5_eq (nd a n : Int) (d : ByteArray) (s : Int) (lk : LK) (z : Nat) (l : Row) : (q8_5 nd a n d s lk z l).ev =
 --folded
 (rAsk (decide (s < (0 : Int))) (eW 6)
 (rAsk (decide (s > (0 : Int)))
 (rGet (fnS (oSt []) (P224 [(stA (5 : Int) nd a n d s lk z l)] [])) fun x1 =>
 (rGet (fnS (oB []) (P210 [(stA (5 : Int) nd a n d s lk z l), (stA x1.1 x1.2.1 x1.2.2.1 x1.2.2.2.1 x1.2.2.2.2.1 x1.2.2.2.2.2.1 x1.2.2.2.2.2.2.1 x1.2.2.2.2.2.2.2.1 x1.2.2.2.2.2.2.2.2)] [])) fun x2 =>
 (rAsk (!x2) (eW 6)
 (rGet (fnS (oRw []) (P225 [] [])) fun x3 =>
 (rAsk (true && (true && (decide ((5 : Int) < (((List.length x3) : Nat) : Int)))))
 (rGet x3[5]? fun x4 =>
 (rGet (List.head? (List.drop 0 x4)) fun x5 =>
 (rAsk (decide (s > (0 : Int)))
 (rGet (fnS (oS []) (P118 [(jn s)] [])) fun x6 =>
 (rAsk (bleW (5 + (ByteArray.size x6)))
 (rAsk (bleW ((ByteArray.size ((ba [115, 116, 111, 112, 32]) ++ x6)) + 1))
 (rGet (fnS (oS []) (P215 [(AV.dat (D.list lk z l))] [])) fun x7 =>
 (rAsk (bleW ((ByteArray.size (((ba [115, 116, 111, 112, 32]) ++ x6) ++ (ba [32]))) + (ByteArray.size x7)))
 (rAsk (bleW ((ByteArray.size ((((ba [115, 116, 111, 112, 32]) ++ x6) ++ (ba [32])) ++ x7)) + 1))
 (rGet (D.str? x5) fun x8 =>
 (rAsk (bleW ((ByteArray.size (((((ba [115, 116, 111, 112, 32]) ++ x6) ++ (ba [32])) ++ x7) ++ (ba [32]))) + (ByteArray.size x8)))
 (rAsk (decide ((((ByteArray.size ((((((ba [115, 116, 111, 112, 32]) ++ x6) ++ (ba [32])) ++ x7) ++ (ba [32])) ++ x8)) : Nat) : Int) > (300 : Int))) (eW 8) (vW ((((((ba [115, 116, 111, 112, 32]) ++ x6) ++ (ba [32])) ++ x7) ++ (ba [32])) ++ x8))) none)) none) none)) none) none))
 (rGet (D.str? x5) fun x9 =>
 (rAsk (decide ((((ByteArray.size x9) : Nat) : Int) > (300 : Int))) (eW 8) (some ((AV.tup [(AV.dat x5), (jn (0 : Int))]), []))))))) none)))))
 (rGet (fnS (oSt []) (P224 [(stA (5 : Int) nd a n d s lk z l)] [])) fun x10 =>
 (rGet (fnS (oB []) (P210 [(stA (5 : Int) nd a n d s lk z l), (stA x10.1 x10.2.1 x10.2.2.1 x10.2.2.2.1 x10.2.2.2.2.1 x10.2.2.2.2.2.1 x10.2.2.2.2.2.2.1 x10.2.2.2.2.2.2.2.1 x10.2.2.2.2.2.2.2.2)] [])) fun x11 =>
 (rAsk (!x11) (eW 6)
 (rGet (fnS (oRw []) (P225 [] [])) fun x12 =>
 (rAsk (true && (true && (decide ((5 : Int) < (((List.length x12) : Nat) : Int)))))
 (rGet x12[5]? fun x13 =>
 (rGet (List.head? (List.drop 0 x13)) fun x14 =>
 (rAsk (decide (s > (0 : Int)))
 (rGet (fnS (oS []) (P118 [(jn s)] [])) fun x15 =>
 (rAsk (bleW (5 + (ByteArray.size x15)))
 (rAsk (bleW ((ByteArray.size ((ba [115, 116, 111, 112, 32]) ++ x15)) + 1))
 (rGet (fnS (oS []) (P215 [(AV.dat (D.list lk z l))] [])) fun x16 =>
 (rAsk (bleW ((ByteArray.size (((ba [115, 116, 111, 112, 32]) ++ x15) ++ (ba [32]))) + (ByteArray.size x16)))
 (rAsk (bleW ((ByteArray.size ((((ba [115, 116, 111, 112, 32]) ++ x15) ++ (ba [32])) ++ x16)) + 1))
 (rGet (D.str? x14) fun x17 =>
 (rAsk (bleW ((ByteArray.size (((((ba [115, 116, 111, 112, 32]) ++ x15) ++ (ba [32])) ++ x16) ++ (ba [32]))) + (ByteArray.size x17)))
 (rAsk (decide ((((ByteArray.size ((((((ba [115, 116, 111, 112, 32]) ++ x15) ++ (ba [32])) ++ x16) ++ (ba [32])) ++ x17)) : Nat) : Int) > (300 : Int))) (eW 8) (vW ((((((ba [115, 116, 111, 112, 32]) ++ x15) ++ (ba [32])) ++ x16) ++ (ba [32])) ++ x17))) none)) none) none)) none) none))
 (rGet (D.str? x14) fun x18 =>
 (rAsk (decide ((((ByteArray.size x18) : Nat) : Int) > (300 : Int))) (eW 8) (some ((AV.tup [(AV.dat x14), (jn (0 : Int))]), []))))))) none)))))))
  := by kernel_rfl
theorem q8_6_eq (nd a n : Int) (d : ByteArray) (s : Int) (lk : LK) (z : Nat) (l : Row) : (q8_6 nd a n d s lk z l).ev =
 --folded
 (rAsk (decide (s < (0 : Int))) (eW 6)
 (rAsk (decide (s > (0 : Int)))
 (rGet (fnS (oSt []) (P224 [(stA (6 : Int) nd a n d s lk z l)] [])) fun x1 =>
 (rGet (fnS (oB []) (P210 [(stA (6 : Int) nd a n d s lk z l), (stA x1.1 x1.2.1 x1.2.2.1 x1.2.2.2.1 x1.2.2.2.2.1 x1.2.2.2.2.2.1 x1.2.2.2.2.2.2.1 x1.2.2.2.2.2.2.2.1 x1.2.2.2.2.2.2.2.2)] [])) fun x2 =>
 (rAsk (!x2) (eW 6)
 (rGet (fnS (oRw []) (P225 [] [])) fun x3 =>
 (rAsk (true && (true && (decide ((6 : Int) < (((List.length x3) : Nat) : Int)))))
 (rGet x3[6]? fun x4 =>
 (rGet (List.head? (List.drop 0 x4)) fun x5 =>
 (rGet (D.str? x5) fun x6 =>
 (rAsk (bleW ((ByteArray.size x6) + 1))
 (rGet (fnS (oS []) (P118 [(jn nd)] [])) fun x7 =>
 (rAsk (bleW ((ByteArray.size (x6 ++ (ba [32]))) + (ByteArray.size x7)))
 (rAsk (decide (s > (0 : Int)))
 (rGet (fnS (oS []) (P118 [(jn s)] [])) fun x8 =>
 (rAsk (bleW (5 + (ByteArray.size x8)))
 (rAsk (bleW ((ByteArray.size ((ba [115, 116, 111, 112, 32]) ++ x8)) + 1))
 (rGet (fnS (oS []) (P215 [(AV.dat (D.list lk z l))] [])) fun x9 =>
 (rAsk (bleW ((ByteArray.size (((ba [115, 116, 111, 112, 32]) ++ x8) ++ (ba [32]))) + (ByteArray.size x9)))
 (rAsk (bleW ((ByteArray.size ((((ba [115, 116, 111, 112, 32]) ++ x8) ++ (ba [32])) ++ x9)) + 1))
 (rAsk (bleW ((ByteArray.size (((((ba [115, 116, 111, 112, 32]) ++ x8) ++ (ba [32])) ++ x9) ++ (ba [32]))) + (ByteArray.size ((x6 ++ (ba [32])) ++ x7))))
 (rAsk (decide ((((ByteArray.size ((((((ba [115, 116, 111, 112, 32]) ++ x8) ++ (ba [32])) ++ x9) ++ (ba [32])) ++ ((x6 ++ (ba [32])) ++ x7))) : Nat) : Int) > (300 : Int))) (eW 8) (vW ((((((ba [115, 116, 111, 112, 32]) ++ x8) ++ (ba [32])) ++ x9) ++ (ba [32])) ++ ((x6 ++ (ba [32])) ++ x7)))) none) none) none)) none) none))
 (rAsk (decide ((((ByteArray.size ((x6 ++ (ba [32])) ++ x7)) : Nat) : Int) > (300 : Int))) (eW 8) (vW ((x6 ++ (ba [32])) ++ x7)))) none)) none)))) none)))))
 (rGet (fnS (oSt []) (P224 [(stA (6 : Int) nd a n d s lk z l)] [])) fun x10 =>
 (rGet (fnS (oB []) (P210 [(stA (6 : Int) nd a n d s lk z l), (stA x10.1 x10.2.1 x10.2.2.1 x10.2.2.2.1 x10.2.2.2.2.1 x10.2.2.2.2.2.1 x10.2.2.2.2.2.2.1 x10.2.2.2.2.2.2.2.1 x10.2.2.2.2.2.2.2.2)] [])) fun x11 =>
 (rAsk (!x11) (eW 6)
 (rGet (fnS (oRw []) (P225 [] [])) fun x12 =>
 (rAsk (true && (true && (decide ((6 : Int) < (((List.length x12) : Nat) : Int)))))
 (rGet x12[6]? fun x13 =>
 (rGet (List.head? (List.drop 0 x13)) fun x14 =>
 (rGet (D.str? x14) fun x15 =>
 (rAsk (bleW ((ByteArray.size x15) + 1))
 (rGet (fnS (oS []) (P118 [(jn nd)] [])) fun x16 =>
 (rAsk (bleW ((ByteArray.size (x15 ++ (ba [32]))) + (ByteArray.size x16)))
 (rAsk (decide (s > (0 : Int)))
 (rGet (fnS (oS []) (P118 [(jn s)] [])) fun x17 =>
 (rAsk (bleW (5 + (ByteArray.size x17)))
 (rAsk (bleW ((ByteArray.size ((ba [115, 116, 111, 112, 32]) ++ x17)) + 1))
 (rGet (fnS (oS []) (P215 [(AV.dat (D.list lk z l))] [])) fun x18 =>
 (rAsk (bleW ((ByteArray.size (((ba [115, 116, 111, 112, 32]) ++ x17) ++ (ba [32]))) + (ByteArray.size x18)))
 (rAsk (bleW ((ByteArray.size ((((ba [115, 116, 111, 112, 32]) ++ x17) ++ (ba [32])) ++ x18)) + 1))
 (rAsk (bleW ((ByteArray.size (((((ba [115, 116, 111, 112, 32]) ++ x17) ++ (ba [32])) ++ x18) ++ (ba [32]))) + (ByteArray.size ((x15 ++ (ba [32])) ++ x16))))
 (rAsk (decide ((((ByteArray.size ((((((ba [115, 116, 111, 112, 32]) ++ x17) ++ (ba [32])) ++ x18) ++ (ba [32])) ++ ((x15 ++ (ba [32])) ++ x16))) : Nat) : Int) > (300 : Int))) (eW 8) (vW ((((((ba [115, 116, 111, 112, 32]) ++ x17) ++ (ba [32])) ++ x18) ++ (ba [32])) ++ ((x15 ++ (ba [32])) ++ x16)))) none) none) none)) none) none))
 (rAsk (decide ((((ByteArray.size ((x15 ++ (ba [32])) ++ x16)) : Nat) : Int) > (300 : Int))) (eW 8) (vW ((x15 ++ (ba [32])) ++ x16)))) none)) none)))) none)))))))
  := by kernel_rfl
theorem q8_7_eq (nd a n : Int) (d : ByteArray) (s : Int) (lk : LK) (z : Nat) (l : Row) : (q8_7 nd a n d s lk z l).ev =
 --folded
 (rAsk (decide (s < (0 : Int))) (eW 6)
 (rAsk (decide (s > (0 : Int)))
 (rGet (fnS (oSt []) (P224 [(stA (7 : Int) nd a n d s lk z l)] [])) fun x1 =>
 (rGet (fnS (oB []) (P210 [(stA (7 : Int) nd a n d s lk z l), (stA x1.1 x1.2.1 x1.2.2.1 x1.2.2.2.1 x1.2.2.2.2.1 x1.2.2.2.2.2.1 x1.2.2.2.2.2.2.1 x1.2.2.2.2.2.2.2.1 x1.2.2.2.2.2.2.2.2)] [])) fun x2 =>
 (rAsk (!x2) (eW 6)
 (rGet (fnS (oRw []) (P225 [] [])) fun x3 =>
 (rAsk (true && (true && (decide ((7 : Int) < (((List.length x3) : Nat) : Int)))))
 (rGet x3[7]? fun x4 =>
 (rGet (List.head? (List.drop 0 x4)) fun x5 =>
 (rGet (D.str? x5) fun x6 =>
 (rAsk (bleW ((ByteArray.size x6) + 1))
 (rGet (fnS (oS []) (P118 [(jn n)] [])) fun x7 =>
 (rAsk (bleW ((ByteArray.size (x6 ++ (ba [32]))) + (ByteArray.size x7)))
 (rAsk (decide (s > (0 : Int)))
 (rGet (fnS (oS []) (P118 [(jn s)] [])) fun x8 =>
 (rAsk (bleW (5 + (ByteArray.size x8)))
 (rAsk (bleW ((ByteArray.size ((ba [115, 116, 111, 112, 32]) ++ x8)) + 1))
 (rGet (fnS (oS []) (P215 [(AV.dat (D.list lk z l))] [])) fun x9 =>
 (rAsk (bleW ((ByteArray.size (((ba [115, 116, 111, 112, 32]) ++ x8) ++ (ba [32]))) + (ByteArray.size x9)))
 (rAsk (bleW ((ByteArray.size ((((ba [115, 116, 111, 112, 32]) ++ x8) ++ (ba [32])) ++ x9)) + 1))
 (rAsk (bleW ((ByteArray.size (((((ba [115, 116, 111, 112, 32]) ++ x8) ++ (ba [32])) ++ x9) ++ (ba [32]))) + (ByteArray.size ((x6 ++ (ba [32])) ++ x7))))
 (rAsk (decide ((((ByteArray.size ((((((ba [115, 116, 111, 112, 32]) ++ x8) ++ (ba [32])) ++ x9) ++ (ba [32])) ++ ((x6 ++ (ba [32])) ++ x7))) : Nat) : Int) > (300 : Int))) (eW 8) (vW ((((((ba [115, 116, 111, 112, 32]) ++ x8) ++ (ba [32])) ++ x9) ++ (ba [32])) ++ ((x6 ++ (ba [32])) ++ x7)))) none) none) none)) none) none))
 (rAsk (decide ((((ByteArray.size ((x6 ++ (ba [32])) ++ x7)) : Nat) : Int) > (300 : Int))) (eW 8) (vW ((x6 ++ (ba [32])) ++ x7)))) none)) none)))) none)))))
 (rGet (fnS (oSt []) (P224 [(stA (7 : Int) nd a n d s lk z l)] [])) fun x10 =>
 (rGet (fnS (oB []) (P210 [(stA (7 : Int) nd a n d s lk z l), (stA x10.1 x10.2.1 x10.2.2.1 x10.2.2.2.1 x10.2.2.2.2.1 x10.2.2.2.2.2.1 x10.2.2.2.2.2.2.1 x10.2.2.2.2.2.2.2.1 x10.2.2.2.2.2.2.2.2)] [])) fun x11 =>
 (rAsk (!x11) (eW 6)
 (rGet (fnS (oRw []) (P225 [] [])) fun x12 =>
 (rAsk (true && (true && (decide ((7 : Int) < (((List.length x12) : Nat) : Int)))))
 (rGet x12[7]? fun x13 =>
 (rGet (List.head? (List.drop 0 x13)) fun x14 =>
 (rGet (D.str? x14) fun x15 =>
 (rAsk (bleW ((ByteArray.size x15) + 1))
 (rGet (fnS (oS []) (P118 [(jn n)] [])) fun x16 =>
 (rAsk (bleW ((ByteArray.size (x15 ++ (ba [32]))) + (ByteArray.size x16)))
 (rAsk (decide (s > (0 : Int)))
 (rGet (fnS (oS []) (P118 [(jn s)] [])) fun x17 =>
 (rAsk (bleW (5 + (ByteArray.size x17)))
 (rAsk (bleW ((ByteArray.size ((ba [115, 116, 111, 112, 32]) ++ x17)) + 1))
 (rGet (fnS (oS []) (P215 [(AV.dat (D.list lk z l))] [])) fun x18 =>
 (rAsk (bleW ((ByteArray.size (((ba [115, 116, 111, 112, 32]) ++ x17) ++ (ba [32]))) + (ByteArray.size x18)))
 (rAsk (bleW ((ByteArray.size ((((ba [115, 116, 111, 112, 32]) ++ x17) ++ (ba [32])) ++ x18)) + 1))
 (rAsk (bleW ((ByteArray.size (((((ba [115, 116, 111, 112, 32]) ++ x17) ++ (ba [32])) ++ x18) ++ (ba [32]))) + (ByteArray.size ((x15 ++ (ba [32])) ++ x16))))
 (rAsk (decide ((((ByteArray.size ((((((ba [115, 116, 111, 112, 32]) ++ x17) ++ (ba [32])) ++ x18) ++ (ba [32])) ++ ((x15 ++ (ba [32])) ++ x16))) : Nat) : Int) > (300 : Int))) (eW 8) (vW ((((((ba [115, 116, 111, 112, 32]) ++ x17) ++ (ba [32])) ++ x18) ++ (ba [32])) ++ ((x15 ++ (ba [32])) ++ x16)))) none) none) none)) none) none))
 (rAsk (decide ((((ByteArray.size ((x15 ++ (ba [32])) ++ x16)) : Nat) : Int) > (300 : Int))) (eW 8) (vW ((x15 ++ (ba [32])) ++ x16)))) none)) none)))) none)))))))
  := by kernel_rfl
theorem q8_8_eq (nd a n : Int) (d : ByteArray) (s : Int) (lk : LK) (z : Nat) (l : Row) : (q8_8 nd a n d s lk z l).ev =
 --folded
 (rAsk (decide (s < (0 : Int))) (eW 6)
 (rAsk (decide (s > (0 : Int)))
 (rGet (fnS (oSt []) (P224 [(stA (8 : Int) nd a n d s lk z l)] [])) fun x1 =>
 (rGet (fnS (oB []) (P210 [(stA (8 : Int) nd a n d s lk z l), (stA x1.1 x1.2.1 x1.2.2.1 x1.2.2.2.1 x1.2.2.2.2.1 x1.2.2.2.2.2.1 x1.2.2.2.2.2.2.1 x1.2.2.2.2.2.2.2.1 x1.2.2.2.2.2.2.2.2)] [])) fun x2 =>
 (rAsk (!x2) (eW 6)
 (rGet (fnS (oRw []) (P225 [] [])) fun x3 =>
 (rAsk (true && (true && (decide ((8 : Int) < (((List.length x3) : Nat) : Int)))))
 (rGet x3[8]? fun x4 =>
 (rGet (List.head? (List.drop 0 x4)) fun x5 =>
 (rGet (D.str? x5) fun x6 =>
 (rAsk (bleW ((ByteArray.size x6) + 1))
 (rGet (fnS (oS []) (P118 [(jn n)] [])) fun x7 =>
 (rAsk (bleW ((ByteArray.size (x6 ++ (ba [32]))) + (ByteArray.size x7)))
 (rAsk (decide (s > (0 : Int)))
 (rGet (fnS (oS []) (P118 [(jn s)] [])) fun x8 =>
 (rAsk (bleW (5 + (ByteArray.size x8)))
 (rAsk (bleW ((ByteArray.size ((ba [115, 116, 111, 112, 32]) ++ x8)) + 1))
 (rGet (fnS (oS []) (P215 [(AV.dat (D.list lk z l))] [])) fun x9 =>
 (rAsk (bleW ((ByteArray.size (((ba [115, 116, 111, 112, 32]) ++ x8) ++ (ba [32]))) + (ByteArray.size x9)))
 (rAsk (bleW ((ByteArray.size ((((ba [115, 116, 111, 112, 32]) ++ x8) ++ (ba [32])) ++ x9)) + 1))
 (rAsk (bleW ((ByteArray.size (((((ba [115, 116, 111, 112, 32]) ++ x8) ++ (ba [32])) ++ x9) ++ (ba [32]))) + (ByteArray.size ((x6 ++ (ba [32])) ++ x7))))
 (rAsk (decide ((((ByteArray.size ((((((ba [115, 116, 111, 112, 32]) ++ x8) ++ (ba [32])) ++ x9) ++ (ba [32])) ++ ((x6 ++ (ba [32])) ++ x7))) : Nat) : Int) > (300 : Int))) (eW 8) (vW ((((((ba [115, 116, 111, 112, 32]) ++ x8) ++ (ba [32])) ++ x9) ++ (ba [32])) ++ ((x6 ++ (ba [32])) ++ x7)))) none) none) none)) none) none))
 (rAsk (decide ((((ByteArray.size ((x6 ++ (ba [32])) ++ x7)) : Nat) : Int) > (300 : Int))) (eW 8) (vW ((x6 ++ (ba [32])) ++ x7)))) none)) none)))) none)))))
 (rGet (fnS (oSt []) (P224 [(stA (8 : Int) nd a n d s lk z l)] [])) fun x10 =>
 (rGet (fnS (oB []) (P210 [(stA (8 : Int) nd a n d s lk z l), (stA x10.1 x10.2.1 x10.2.2.1 x10.2.2.2.1 x10.2.2.2.2.1 x10.2.2.2.2.2.1 x10.2.2.2.2.2.2.1 x10.2.2.2.2.2.2.2.1 x10.2.2.2.2.2.2.2.2)] [])) fun x11 =>
 (rAsk (!x11) (eW 6)
 (rGet (fnS (oRw []) (P225 [] [])) fun x12 =>
 (rAsk (true && (true && (decide ((8 : Int) < (((List.length x12) : Nat) : Int)))))
 (rGet x12[8]? fun x13 =>
 (rGet (List.head? (List.drop 0 x13)) fun x14 =>
 (rGet (D.str? x14) fun x15 =>
 (rAsk (bleW ((ByteArray.size x15) + 1))
 (rGet (fnS (oS []) (P118 [(jn n)] [])) fun x16 =>
 (rAsk (bleW ((ByteArray.size (x15 ++ (ba [32]))) + (ByteArray.size x16)))
 (rAsk (decide (s > (0 : Int)))
 (rGet (fnS (oS []) (P118 [(jn s)] [])) fun x17 =>
 (rAsk (bleW (5 + (ByteArray.size x17)))
 (rAsk (bleW ((ByteArray.size ((ba [115, 116, 111, 112, 32]) ++ x17)) + 1))
 (rGet (fnS (oS []) (P215 [(AV.dat (D.list lk z l))] [])) fun x18 =>
 (rAsk (bleW ((ByteArray.size (((ba [115, 116, 111, 112, 32]) ++ x17) ++ (ba [32]))) + (ByteArray.size x18)))
 (rAsk (bleW ((ByteArray.size ((((ba [115, 116, 111, 112, 32]) ++ x17) ++ (ba [32])) ++ x18)) + 1))
 (rAsk (bleW ((ByteArray.size (((((ba [115, 116, 111, 112, 32]) ++ x17) ++ (ba [32])) ++ x18) ++ (ba [32]))) + (ByteArray.size ((x15 ++ (ba [32])) ++ x16))))
 (rAsk (decide ((((ByteArray.size ((((((ba [115, 116, 111, 112, 32]) ++ x17) ++ (ba [32])) ++ x18) ++ (ba [32])) ++ ((x15 ++ (ba [32])) ++ x16))) : Nat) : Int) > (300 : Int))) (eW 8) (vW ((((((ba [115, 116, 111, 112, 32]) ++ x17) ++ (ba [32])) ++ x18) ++ (ba [32])) ++ ((x15 ++ (ba [32])) ++ x16)))) none) none) none)) none) none))
 (rAsk (decide ((((ByteArray.size ((x15 ++ (ba [32])) ++ x16)) : Nat) : Int) > (300 : Int))) (eW 8) (vW ((x15 ++ (ba [32])) ++ x16)))) none)) none)))) none)))))))
  := by kernel_rfl
theorem q8_9_eq (nd a n : Int) (d : ByteArray) (s : Int) (lk : LK) (z : Nat) (l : Row) : (q8_9 nd a n d s lk z l).ev =
 --folded
 (rAsk (decide (s < (0 : Int))) (eW 6)
 (rAsk (decide (s > (0 : Int)))
 (rGet (fnS (oSt []) (P224 [(stA (9 : Int) nd a n d s lk z l)] [])) fun x1 =>
 (rGet (fnS (oB []) (P210 [(stA (9 : Int) nd a n d s lk z l), (stA x1.1 x1.2.1 x1.2.2.1 x1.2.2.2.1 x1.2.2.2.2.1 x1.2.2.2.2.2.1 x1.2.2.2.2.2.2.1 x1.2.2.2.2.2.2.2.1 x1.2.2.2.2.2.2.2.2)] [])) fun x2 =>
 (rAsk (!x2) (eW 6)
 (rGet (fnS (oRw []) (P225 [] [])) fun x3 =>
 (rAsk (true && (true && (decide ((9 : Int) < (((List.length x3) : Nat) : Int)))))
 (rGet x3[9]? fun x4 =>
 (rGet (List.head? (List.drop 0 x4)) fun x5 =>
 (rGet (D.str? x5) fun x6 =>
 (rAsk (bleW ((ByteArray.size x6) + 1))
 (rGet (fnS (oS []) (P118 [(jn n)] [])) fun x7 =>
 (rAsk (bleW ((ByteArray.size (x6 ++ (ba [32]))) + (ByteArray.size x7)))
 (rAsk (decide (s > (0 : Int)))
 (rGet (fnS (oS []) (P118 [(jn s)] [])) fun x8 =>
 (rAsk (bleW (5 + (ByteArray.size x8)))
 (rAsk (bleW ((ByteArray.size ((ba [115, 116, 111, 112, 32]) ++ x8)) + 1))
 (rGet (fnS (oS []) (P215 [(AV.dat (D.list lk z l))] [])) fun x9 =>
 (rAsk (bleW ((ByteArray.size (((ba [115, 116, 111, 112, 32]) ++ x8) ++ (ba [32]))) + (ByteArray.size x9)))
 (rAsk (bleW ((ByteArray.size ((((ba [115, 116, 111, 112, 32]) ++ x8) ++ (ba [32])) ++ x9)) + 1))
 (rAsk (bleW ((ByteArray.size (((((ba [115, 116, 111, 112, 32]) ++ x8) ++ (ba [32])) ++ x9) ++ (ba [32]))) + (ByteArray.size ((x6 ++ (ba [32])) ++ x7))))
 (rAsk (decide ((((ByteArray.size ((((((ba [115, 116, 111, 112, 32]) ++ x8) ++ (ba [32])) ++ x9) ++ (ba [32])) ++ ((x6 ++ (ba [32])) ++ x7))) : Nat) : Int) > (300 : Int))) (eW 8) (vW ((((((ba [115, 116, 111, 112, 32]) ++ x8) ++ (ba [32])) ++ x9) ++ (ba [32])) ++ ((x6 ++ (ba [32])) ++ x7)))) none) none) none)) none) none))
 (rAsk (decide ((((ByteArray.size ((x6 ++ (ba [32])) ++ x7)) : Nat) : Int) > (300 : Int))) (eW 8) (vW ((x6 ++ (ba [32])) ++ x7)))) none)) none)))) none)))))
 (rGet (fnS (oSt []) (P224 [(stA (9 : Int) nd a n d s lk z l)] [])) fun x10 =>
 (rGet (fnS (oB []) (P210 [(stA (9 : Int) nd a n d s lk z l), (stA x10.1 x10.2.1 x10.2.2.1 x10.2.2.2.1 x10.2.2.2.2.1 x10.2.2.2.2.2.1 x10.2.2.2.2.2.2.1 x10.2.2.2.2.2.2.2.1 x10.2.2.2.2.2.2.2.2)] [])) fun x11 =>
 (rAsk (!x11) (eW 6)
 (rGet (fnS (oRw []) (P225 [] [])) fun x12 =>
 (rAsk (true && (true && (decide ((9 : Int) < (((List.length x12) : Nat) : Int)))))
 (rGet x12[9]? fun x13 =>
 (rGet (List.head? (List.drop 0 x13)) fun x14 =>
 (rGet (D.str? x14) fun x15 =>
 (rAsk (bleW ((ByteArray.size x15) + 1))
 (rGet (fnS (oS []) (P118 [(jn n)] [])) fun x16 =>
 (rAsk (bleW ((ByteArray.size (x15 ++ (ba [32]))) + (ByteArray.size x16)))
 (rAsk (decide (s > (0 : Int)))
 (rGet (fnS (oS []) (P118 [(jn s)] [])) fun x17 =>
 (rAsk (bleW (5 + (ByteArray.size x17)))
 (rAsk (bleW ((ByteArray.size ((ba [115, 116, 111, 112, 32]) ++ x17)) + 1))
 (rGet (fnS (oS []) (P215 [(AV.dat (D.list lk z l))] [])) fun x18 =>
 (rAsk (bleW ((ByteArray.size (((ba [115, 116, 111, 112, 32]) ++ x17) ++ (ba [32]))) + (ByteArray.size x18)))
 (rAsk (bleW ((ByteArray.size ((((ba [115, 116, 111, 112, 32]) ++ x17) ++ (ba [32])) ++ x18)) + 1))
 (rAsk (bleW ((ByteArray.size (((((ba [115, 116, 111, 112, 32]) ++ x17) ++ (ba [32])) ++ x18) ++ (ba [32]))) + (ByteArray.size ((x15 ++ (ba [32])) ++ x16))))
 (rAsk (decide ((((ByteArray.size ((((((ba [115, 116, 111, 112, 32]) ++ x17) ++ (ba [32])) ++ x18) ++ (ba [32])) ++ ((x15 ++ (ba [32])) ++ x16))) : Nat) : Int) > (300 : Int))) (eW 8) (vW ((((((ba [115, 116, 111, 112, 32]) ++ x17) ++ (ba [32])) ++ x18) ++ (ba [32])) ++ ((x15 ++ (ba [32])) ++ x16)))) none) none) none)) none) none))
 (rAsk (decide ((((ByteArray.size ((x15 ++ (ba [32])) ++ x16)) : Nat) : Int) > (300 : Int))) (eW 8) (vW ((x15 ++ (ba [32])) ++ x16)))) none)) none)))) none)))))))
  := by kernel_rfl
theorem q8_10_eq (nd a n : Int) (d : ByteArray) (s : Int) (lk : LK) (z : Nat) (l : Row) : (q8_10 nd a n d s lk z l).ev =
 --folded
 (rAsk (decide (s < (0 : Int))) (eW 6)
 (rAsk (decide (s > (0 : Int)))
 (rGet (fnS (oSt []) (P224 [(stA (10 : Int) nd a n d s lk z l)] [])) fun x1 =>
 (rGet (fnS (oB []) (P210 [(stA (10 : Int) nd a n d s lk z l), (stA x1.1 x1.2.1 x1.2.2.1 x1.2.2.2.1 x1.2.2.2.2.1 x1.2.2.2.2.2.1 x1.2.2.2.2.2.2.1 x1.2.2.2.2.2.2.2.1 x1.2.2.2.2.2.2.2.2)] [])) fun x2 =>
 (rAsk (!x2) (eW 6)
 (rGet (fnS (oRw []) (P225 [] [])) fun x3 =>
 (rAsk (true && (true && (decide ((10 : Int) < (((List.length x3) : Nat) : Int)))))
 (rGet x3[10]? fun x4 =>
 (rGet (List.head? (List.drop 0 x4)) fun x5 =>
 (rGet (D.str? x5) fun x6 =>
 (rAsk (bleW ((ByteArray.size x6) + 1))
 (rGet (fnS (oS []) (P118 [(jn n)] [])) fun x7 =>
 (rAsk (bleW ((ByteArray.size (x6 ++ (ba [32]))) + (ByteArray.size x7)))
 (rAsk (bleW ((ByteArray.size ((x6 ++ (ba [32])) ++ x7)) + 1))
 (rGet (fnS (oS []) (P118 [(jn a)] [])) fun x8 =>
 (rAsk (bleW ((ByteArray.size (((x6 ++ (ba [32])) ++ x7) ++ (ba [32]))) + (ByteArray.size x8)))
 (rAsk (decide (s > (0 : Int)))
 (rGet (fnS (oS []) (P118 [(jn s)] [])) fun x9 =>
 (rAsk (bleW (5 + (ByteArray.size x9)))
 (rAsk (bleW ((ByteArray.size ((ba [115, 116, 111, 112, 32]) ++ x9)) + 1))
 (rGet (fnS (oS []) (P215 [(AV.dat (D.list lk z l))] [])) fun x10 =>
 (rAsk (bleW ((ByteArray.size (((ba [115, 116, 111, 112, 32]) ++ x9) ++ (ba [32]))) + (ByteArray.size x10)))
 (rAsk (bleW ((ByteArray.size ((((ba [115, 116, 111, 112, 32]) ++ x9) ++ (ba [32])) ++ x10)) + 1))
 (rAsk (bleW ((ByteArray.size (((((ba [115, 116, 111, 112, 32]) ++ x9) ++ (ba [32])) ++ x10) ++ (ba [32]))) + (ByteArray.size ((((x6 ++ (ba [32])) ++ x7) ++ (ba [32])) ++ x8))))
 (rAsk (decide ((((ByteArray.size ((((((ba [115, 116, 111, 112, 32]) ++ x9) ++ (ba [32])) ++ x10) ++ (ba [32])) ++ ((((x6 ++ (ba [32])) ++ x7) ++ (ba [32])) ++ x8))) : Nat) : Int) > (300 : Int))) (eW 8) (vW ((((((ba [115, 116, 111, 112, 32]) ++ x9) ++ (ba [32])) ++ x10) ++ (ba [32])) ++ ((((x6 ++ (ba [32])) ++ x7) ++ (ba [32])) ++ x8)))) none) none) none)) none) none))
 (rAsk (decide ((((ByteArray.size ((((x6 ++ (ba [32])) ++ x7) ++ (ba [32])) ++ x8)) : Nat) : Int) > (300 : Int))) (eW 8) (vW ((((x6 ++ (ba [32])) ++ x7) ++ (ba [32])) ++ x8)))) none)) none) none)) none)))) none)))))
 (rGet (fnS (oSt []) (P224 [(stA (10 : Int) nd a n d s lk z l)] [])) fun x11 =>
 (rGet (fnS (oB []) (P210 [(stA (10 : Int) nd a n d s lk z l), (stA x11.1 x11.2.1 x11.2.2.1 x11.2.2.2.1 x11.2.2.2.2.1 x11.2.2.2.2.2.1 x11.2.2.2.2.2.2.1 x11.2.2.2.2.2.2.2.1 x11.2.2.2.2.2.2.2.2)] [])) fun x12 =>
 (rAsk (!x12) (eW 6)
 (rGet (fnS (oRw []) (P225 [] [])) fun x13 =>
 (rAsk (true && (true && (decide ((10 : Int) < (((List.length x13) : Nat) : Int)))))
 (rGet x13[10]? fun x14 =>
 (rGet (List.head? (List.drop 0 x14)) fun x15 =>
 (rGet (D.str? x15) fun x16 =>
 (rAsk (bleW ((ByteArray.size x16) + 1))
 (rGet (fnS (oS []) (P118 [(jn n)] [])) fun x17 =>
 (rAsk (bleW ((ByteArray.size (x16 ++ (ba [32]))) + (ByteArray.size x17)))
 (rAsk (bleW ((ByteArray.size ((x16 ++ (ba [32])) ++ x17)) + 1))
 (rGet (fnS (oS []) (P118 [(jn a)] [])) fun x18 =>
 (rAsk (bleW ((ByteArray.size (((x16 ++ (ba [32])) ++ x17) ++ (ba [32]))) + (ByteArray.size x18)))
 (rAsk (decide (s > (0 : Int)))
 (rGet (fnS (oS []) (P118 [(jn s)] [])) fun x19 =>
 (rAsk (bleW (5 + (ByteArray.size x19)))
 (rAsk (bleW ((ByteArray.size ((ba [115, 116, 111, 112, 32]) ++ x19)) + 1))
 (rGet (fnS (oS []) (P215 [(AV.dat (D.list lk z l))] [])) fun x20 =>
 (rAsk (bleW ((ByteArray.size (((ba [115, 116, 111, 112, 32]) ++ x19) ++ (ba [32]))) + (ByteArray.size x20)))
 (rAsk (bleW ((ByteArray.size ((((ba [115, 116, 111, 112, 32]) ++ x19) ++ (ba [32])) ++ x20)) + 1))
 (rAsk (bleW ((ByteArray.size (((((ba [115, 116, 111, 112, 32]) ++ x19) ++ (ba [32])) ++ x20) ++ (ba [32]))) + (ByteArray.size ((((x16 ++ (ba [32])) ++ x17) ++ (ba [32])) ++ x18))))
 (rAsk (decide ((((ByteArray.size ((((((ba [115, 116, 111, 112, 32]) ++ x19) ++ (ba [32])) ++ x20) ++ (ba [32])) ++ ((((x16 ++ (ba [32])) ++ x17) ++ (ba [32])) ++ x18))) : Nat) : Int) > (300 : Int))) (eW 8) (vW ((((((ba [115, 116, 111, 112, 32]) ++ x19) ++ (ba [32])) ++ x20) ++ (ba [32])) ++ ((((x16 ++ (ba [32])) ++ x17) ++ (ba [32])) ++ x18)))) none) none) none)) none) none))
 (rAsk (decide ((((ByteArray.size ((((x16 ++ (ba [32])) ++ x17) ++ (ba [32])) ++ x18)) : Nat) : Int) > (300 : Int))) (eW 8) (vW ((((x16 ++ (ba [32])) ++ x17) ++ (ba [32])) ++ x18)))) none)) none) none)) none)))) none)))))))
  := by kernel_rfl
theorem q8_11_eq (nd a n : Int) (d : ByteArray) (s : Int) (lk : LK) (z : Nat) (l : Row) : (q8_11 nd a n d s lk z l).ev =
 --folded
 (rAsk (decide (s < (0 : Int))) (eW 6)
 (rAsk (decide (s > (0 : Int)))
 (rGet (fnS (oSt []) (P224 [(stA (11 : Int) nd a n d s lk z l)] [])) fun x1 =>
 (rGet (fnS (oB []) (P210 [(stA (11 : Int) nd a n d s lk z l), (stA x1.1 x1.2.1 x1.2.2.1 x1.2.2.2.1 x1.2.2.2.2.1 x1.2.2.2.2.2.1 x1.2.2.2.2.2.2.1 x1.2.2.2.2.2.2.2.1 x1.2.2.2.2.2.2.2.2)] [])) fun x2 =>
 (rAsk (!x2) (eW 6)
 (rGet (fnS (oRw []) (P225 [] [])) fun x3 =>
 (rAsk (true && (true && (decide ((11 : Int) < (((List.length x3) : Nat) : Int)))))
 (rGet x3[11]? fun x4 =>
 (rGet (List.head? (List.drop 0 x4)) fun x5 =>
 (rAsk (decide (s > (0 : Int)))
 (rGet (fnS (oS []) (P118 [(jn s)] [])) fun x6 =>
 (rAsk (bleW (5 + (ByteArray.size x6)))
 (rAsk (bleW ((ByteArray.size ((ba [115, 116, 111, 112, 32]) ++ x6)) + 1))
 (rGet (fnS (oS []) (P215 [(AV.dat (D.list lk z l))] [])) fun x7 =>
 (rAsk (bleW ((ByteArray.size (((ba [115, 116, 111, 112, 32]) ++ x6) ++ (ba [32]))) + (ByteArray.size x7)))
 (rAsk (bleW ((ByteArray.size ((((ba [115, 116, 111, 112, 32]) ++ x6) ++ (ba [32])) ++ x7)) + 1))
 (rGet (D.str? x5) fun x8 =>
 (rAsk (bleW ((ByteArray.size (((((ba [115, 116, 111, 112, 32]) ++ x6) ++ (ba [32])) ++ x7) ++ (ba [32]))) + (ByteArray.size x8)))
 (rAsk (decide ((((ByteArray.size ((((((ba [115, 116, 111, 112, 32]) ++ x6) ++ (ba [32])) ++ x7) ++ (ba [32])) ++ x8)) : Nat) : Int) > (300 : Int))) (eW 8) (vW ((((((ba [115, 116, 111, 112, 32]) ++ x6) ++ (ba [32])) ++ x7) ++ (ba [32])) ++ x8))) none)) none) none)) none) none))
 (rGet (D.str? x5) fun x9 =>
 (rAsk (decide ((((ByteArray.size x9) : Nat) : Int) > (300 : Int))) (eW 8) (some ((AV.tup [(AV.dat x5), (jn (0 : Int))]), []))))))) none)))))
 (rGet (fnS (oSt []) (P224 [(stA (11 : Int) nd a n d s lk z l)] [])) fun x10 =>
 (rGet (fnS (oB []) (P210 [(stA (11 : Int) nd a n d s lk z l), (stA x10.1 x10.2.1 x10.2.2.1 x10.2.2.2.1 x10.2.2.2.2.1 x10.2.2.2.2.2.1 x10.2.2.2.2.2.2.1 x10.2.2.2.2.2.2.2.1 x10.2.2.2.2.2.2.2.2)] [])) fun x11 =>
 (rAsk (!x11) (eW 6)
 (rGet (fnS (oRw []) (P225 [] [])) fun x12 =>
 (rAsk (true && (true && (decide ((11 : Int) < (((List.length x12) : Nat) : Int)))))
 (rGet x12[11]? fun x13 =>
 (rGet (List.head? (List.drop 0 x13)) fun x14 =>
 (rAsk (decide (s > (0 : Int)))
 (rGet (fnS (oS []) (P118 [(jn s)] [])) fun x15 =>
 (rAsk (bleW (5 + (ByteArray.size x15)))
 (rAsk (bleW ((ByteArray.size ((ba [115, 116, 111, 112, 32]) ++ x15)) + 1))
 (rGet (fnS (oS []) (P215 [(AV.dat (D.list lk z l))] [])) fun x16 =>
 (rAsk (bleW ((ByteArray.size (((ba [115, 116, 111, 112, 32]) ++ x15) ++ (ba [32]))) + (ByteArray.size x16)))
 (rAsk (bleW ((ByteArray.size ((((ba [115, 116, 111, 112, 32]) ++ x15) ++ (ba [32])) ++ x16)) + 1))
 (rGet (D.str? x14) fun x17 =>
 (rAsk (bleW ((ByteArray.size (((((ba [115, 116, 111, 112, 32]) ++ x15) ++ (ba [32])) ++ x16) ++ (ba [32]))) + (ByteArray.size x17)))
 (rAsk (decide ((((ByteArray.size ((((((ba [115, 116, 111, 112, 32]) ++ x15) ++ (ba [32])) ++ x16) ++ (ba [32])) ++ x17)) : Nat) : Int) > (300 : Int))) (eW 8) (vW ((((((ba [115, 116, 111, 112, 32]) ++ x15) ++ (ba [32])) ++ x16) ++ (ba [32])) ++ x17))) none)) none) none)) none) none))
 (rGet (D.str? x14) fun x18 =>
 (rAsk (decide ((((ByteArray.size x18) : Nat) : Int) > (300 : Int))) (eW 8) (some ((AV.tup [(AV.dat x14), (jn (0 : Int))]), []))))))) none)))))))
  := by kernel_rfl
theorem q8_12_eq (nd a n : Int) (d : ByteArray) (s : Int) (lk : LK) (z : Nat) (l : Row) : (q8_12 nd a n d s lk z l).ev =
 --folded
 (rAsk (decide (s < (0 : Int))) (eW 6)
 (rAsk (decide (s > (0 : Int))) (eW 6)
 (rGet (fnS (oSt []) (P224 [(stA (12 : Int) nd a n d s lk z l)] [])) fun x1 =>
 (rGet (fnS (oB []) (P210 [(stA (12 : Int) nd a n d s lk z l), (stA x1.1 x1.2.1 x1.2.2.1 x1.2.2.2.1 x1.2.2.2.2.1 x1.2.2.2.2.2.1 x1.2.2.2.2.2.2.1 x1.2.2.2.2.2.2.2.1 x1.2.2.2.2.2.2.2.2)] [])) fun x2 =>
 (rAsk (!x2) (eW 6)
 (rGet (fnS (oRw []) (P225 [] [])) fun x3 =>
 (rAsk (true && (true && (decide ((12 : Int) < (((List.length x3) : Nat) : Int)))))
 (rGet x3[12]? fun x4 =>
 (rGet (List.head? (List.drop 0 x4)) fun x5 =>
 (rGet (D.str? x5) fun x6 =>
 (rAsk (bleW ((ByteArray.size x6) + 1))
 (rGet (fnS (oS []) (P118 [(jn nd)] [])) fun x7 =>
 (rAsk (bleW ((ByteArray.size (x6 ++ (ba [32]))) + (ByteArray.size x7)))
 (rAsk (bleW ((ByteArray.size ((x6 ++ (ba [32])) ++ x7)) + 1))
 (rGet (fnS (oS []) (P215 [(AV.dat (D.list lk z l))] [])) fun x8 =>
 (rAsk (bleW ((ByteArray.size (((x6 ++ (ba [32])) ++ x7) ++ (ba [32]))) + (ByteArray.size x8)))
 (rAsk (decide (s > (0 : Int)))
 (rGet (fnS (oS []) (P118 [(jn s)] [])) fun x9 =>
 (rAsk (bleW (5 + (ByteArray.size x9)))
 (rAsk (bleW ((ByteArray.size ((ba [115, 116, 111, 112, 32]) ++ x9)) + 1))
 (rGet (fnS (oS []) (P215 [(AV.dat (D.list lk z l))] [])) fun x10 =>
 (rAsk (bleW ((ByteArray.size (((ba [115, 116, 111, 112, 32]) ++ x9) ++ (ba [32]))) + (ByteArray.size x10)))
 (rAsk (bleW ((ByteArray.size ((((ba [115, 116, 111, 112, 32]) ++ x9) ++ (ba [32])) ++ x10)) + 1))
 (rAsk (bleW ((ByteArray.size (((((ba [115, 116, 111, 112, 32]) ++ x9) ++ (ba [32])) ++ x10) ++ (ba [32]))) + (ByteArray.size ((((x6 ++ (ba [32])) ++ x7) ++ (ba [32])) ++ x8))))
 (rAsk (decide ((((ByteArray.size ((((((ba [115, 116, 111, 112, 32]) ++ x9) ++ (ba [32])) ++ x10) ++ (ba [32])) ++ ((((x6 ++ (ba [32])) ++ x7) ++ (ba [32])) ++ x8))) : Nat) : Int) > (300 : Int))) (eW 8) (vW ((((((ba [115, 116, 111, 112, 32]) ++ x9) ++ (ba [32])) ++ x10) ++ (ba [32])) ++ ((((x6 ++ (ba [32])) ++ x7) ++ (ba [32])) ++ x8)))) none) none) none)) none) none))
 (rAsk (decide ((((ByteArray.size ((((x6 ++ (ba [32])) ++ x7) ++ (ba [32])) ++ x8)) : Nat) : Int) > (300 : Int))) (eW 8) (vW ((((x6 ++ (ba [32])) ++ x7) ++ (ba [32])) ++ x8)))) none)) none) none)) none)))) none)))))))
  := by kernel_rfl
theorem q8_13_eq (nd a n : Int) (d : ByteArray) (s : Int) (lk : LK) (z : Nat) (l : Row) : (q8_13 nd a n d s lk z l).ev =
 --folded
 (rAsk (decide (s < (0 : Int))) (eW 6)
 (rAsk (decide (s > (0 : Int)))
 (rGet (fnS (oSt []) (P224 [(stA (13 : Int) nd a n d s lk z l)] [])) fun x1 =>
 (rGet (fnS (oB []) (P210 [(stA (13 : Int) nd a n d s lk z l), (stA x1.1 x1.2.1 x1.2.2.1 x1.2.2.2.1 x1.2.2.2.2.1 x1.2.2.2.2.2.1 x1.2.2.2.2.2.2.1 x1.2.2.2.2.2.2.2.1 x1.2.2.2.2.2.2.2.2)] [])) fun x2 =>
 (rAsk (!x2) (eW 6)
 (rGet (fnS (oRw []) (P225 [] [])) fun x3 =>
 (rAsk (true && (true && (decide ((13 : Int) < (((List.length x3) : Nat) : Int)))))
 (rGet x3[13]? fun x4 =>
 (rGet (List.head? (List.drop 0 x4)) fun x5 =>
 (rGet (D.str? x5) fun x6 =>
 (rAsk (bleW ((ByteArray.size x6) + 1))
 (rGet (fnS (oS []) (P118 [(jn nd)] [])) fun x7 =>
 (rAsk (bleW ((ByteArray.size (x6 ++ (ba [32]))) + (ByteArray.size x7)))
 (rAsk (decide (s > (0 : Int)))
 (rGet (fnS (oS []) (P118 [(jn s)] [])) fun x8 =>
 (rAsk (bleW (5 + (ByteArray.size x8)))
 (rAsk (bleW ((ByteArray.size ((ba [115, 116, 111, 112, 32]) ++ x8)) + 1))
 (rGet (fnS (oS []) (P215 [(AV.dat (D.list lk z l))] [])) fun x9 =>
 (rAsk (bleW ((ByteArray.size (((ba [115, 116, 111, 112, 32]) ++ x8) ++ (ba [32]))) + (ByteArray.size x9)))
 (rAsk (bleW ((ByteArray.size ((((ba [115, 116, 111, 112, 32]) ++ x8) ++ (ba [32])) ++ x9)) + 1))
 (rAsk (bleW ((ByteArray.size (((((ba [115, 116, 111, 112, 32]) ++ x8) ++ (ba [32])) ++ x9) ++ (ba [32]))) + (ByteArray.size ((x6 ++ (ba [32])) ++ x7))))
 (rAsk (decide ((((ByteArray.size ((((((ba [115, 116, 111, 112, 32]) ++ x8) ++ (ba [32])) ++ x9) ++ (ba [32])) ++ ((x6 ++ (ba [32])) ++ x7))) : Nat) : Int) > (300 : Int))) (eW 8) (vW ((((((ba [115, 116, 111, 112, 32]) ++ x8) ++ (ba [32])) ++ x9) ++ (ba [32])) ++ ((x6 ++ (ba [32])) ++ x7)))) none) none) none)) none) none))
 (rAsk (decide ((((ByteArray.size ((x6 ++ (ba [32])) ++ x7)) : Nat) : Int) > (300 : Int))) (eW 8) (vW ((x6 ++ (ba [32])) ++ x7)))) none)) none)))) none)))))
 (rGet (fnS (oSt []) (P224 [(stA (13 : Int) nd a n d s lk z l)] [])) fun x10 =>
 (rGet (fnS (oB []) (P210 [(stA (13 : Int) nd a n d s lk z l), (stA x10.1 x10.2.1 x10.2.2.1 x10.2.2.2.1 x10.2.2.2.2.1 x10.2.2.2.2.2.1 x10.2.2.2.2.2.2.1 x10.2.2.2.2.2.2.2.1 x10.2.2.2.2.2.2.2.2)] [])) fun x11 =>
 (rAsk (!x11) (eW 6)
 (rGet (fnS (oRw []) (P225 [] [])) fun x12 =>
 (rAsk (true && (true && (decide ((13 : Int) < (((List.length x12) : Nat) : Int)))))
 (rGet x12[13]? fun x13 =>
 (rGet (List.head? (List.drop 0 x13)) fun x14 =>
 (rGet (D.str? x14) fun x15 =>
 (rAsk (bleW ((ByteArray.size x15) + 1))
 (rGet (fnS (oS []) (P118 [(jn nd)] [])) fun x16 =>
 (rAsk (bleW ((ByteArray.size (x15 ++ (ba [32]))) + (ByteArray.size x16)))
 (rAsk (decide (s > (0 : Int)))
 (rGet (fnS (oS []) (P118 [(jn s)] [])) fun x17 =>
 (rAsk (bleW (5 + (ByteArray.size x17)))
 (rAsk (bleW ((ByteArray.size ((ba [115, 116, 111, 112, 32]) ++ x17)) + 1))
 (rGet (fnS (oS []) (P215 [(AV.dat (D.list lk z l))] [])) fun x18 =>
 (rAsk (bleW ((ByteArray.size (((ba [115, 116, 111, 112, 32]) ++ x17) ++ (ba [32]))) + (ByteArray.size x18)))
 (rAsk (bleW ((ByteArray.size ((((ba [115, 116, 111, 112, 32]) ++ x17) ++ (ba [32])) ++ x18)) + 1))
 (rAsk (bleW ((ByteArray.size (((((ba [115, 116, 111, 112, 32]) ++ x17) ++ (ba [32])) ++ x18) ++ (ba [32]))) + (ByteArray.size ((x15 ++ (ba [32])) ++ x16))))
 (rAsk (decide ((((ByteArray.size ((((((ba [115, 116, 111, 112, 32]) ++ x17) ++ (ba [32])) ++ x18) ++ (ba [32])) ++ ((x15 ++ (ba [32])) ++ x16))) : Nat) : Int) > (300 : Int))) (eW 8) (vW ((((((ba [115, 116, 111, 112, 32]) ++ x17) ++ (ba [32])) ++ x18) ++ (ba [32])) ++ ((x15 ++ (ba [32])) ++ x16)))) none) none) none)) none) none))
 (rAsk (decide ((((ByteArray.size ((x15 ++ (ba [32])) ++ x16)) : Nat) : Int) > (300 : Int))) (eW 8) (vW ((x15 ++ (ba [32])) ++ x16)))) none)) none)))) none)))))))
  := by kernel_rfl
theorem q8_14_eq (nd a n : Int) (d : ByteArray) (s : Int) (lk : LK) (z : Nat) (l : Row) : (q8_14 nd a n d s lk z l).ev =
 --folded
 (rAsk (decide (s < (0 : Int))) (eW 6)
 (rAsk (decide (s > (0 : Int)))
 (rGet (fnS (oSt []) (P224 [(stA (14 : Int) nd a n d s lk z l)] [])) fun x1 =>
 (rGet (fnS (oB []) (P210 [(stA (14 : Int) nd a n d s lk z l), (stA x1.1 x1.2.1 x1.2.2.1 x1.2.2.2.1 x1.2.2.2.2.1 x1.2.2.2.2.2.1 x1.2.2.2.2.2.2.1 x1.2.2.2.2.2.2.2.1 x1.2.2.2.2.2.2.2.2)] [])) fun x2 =>
 (rAsk (!x2) (eW 6)
 (rGet (fnS (oRw []) (P225 [] [])) fun x3 =>
 (rAsk (true && (true && (decide ((14 : Int) < (((List.length x3) : Nat) : Int)))))
 (rGet x3[14]? fun x4 =>
 (rGet (List.head? (List.drop 0 x4)) fun x5 =>
 (rGet (D.str? x5) fun x6 =>
 (rAsk (bleW ((ByteArray.size x6) + 1))
 (rGet (fnS (oS []) (P118 [(jn a)] [])) fun x7 =>
 (rAsk (bleW ((ByteArray.size (x6 ++ (ba [32]))) + (ByteArray.size x7)))
 (rAsk (decide (s > (0 : Int)))
 (rGet (fnS (oS []) (P118 [(jn s)] [])) fun x8 =>
 (rAsk (bleW (5 + (ByteArray.size x8)))
 (rAsk (bleW ((ByteArray.size ((ba [115, 116, 111, 112, 32]) ++ x8)) + 1))
 (rGet (fnS (oS []) (P215 [(AV.dat (D.list lk z l))] [])) fun x9 =>
 (rAsk (bleW ((ByteArray.size (((ba [115, 116, 111, 112, 32]) ++ x8) ++ (ba [32]))) + (ByteArray.size x9)))
 (rAsk (bleW ((ByteArray.size ((((ba [115, 116, 111, 112, 32]) ++ x8) ++ (ba [32])) ++ x9)) + 1))
 (rAsk (bleW ((ByteArray.size (((((ba [115, 116, 111, 112, 32]) ++ x8) ++ (ba [32])) ++ x9) ++ (ba [32]))) + (ByteArray.size ((x6 ++ (ba [32])) ++ x7))))
 (rAsk (decide ((((ByteArray.size ((((((ba [115, 116, 111, 112, 32]) ++ x8) ++ (ba [32])) ++ x9) ++ (ba [32])) ++ ((x6 ++ (ba [32])) ++ x7))) : Nat) : Int) > (300 : Int))) (eW 8) (vW ((((((ba [115, 116, 111, 112, 32]) ++ x8) ++ (ba [32])) ++ x9) ++ (ba [32])) ++ ((x6 ++ (ba [32])) ++ x7)))) none) none) none)) none) none))
 (rAsk (decide ((((ByteArray.size ((x6 ++ (ba [32])) ++ x7)) : Nat) : Int) > (300 : Int))) (eW 8) (vW ((x6 ++ (ba [32])) ++ x7)))) none)) none)))) none)))))
 (rGet (fnS (oSt []) (P224 [(stA (14 : Int) nd a n d s lk z l)] [])) fun x10 =>
 (rGet (fnS (oB []) (P210 [(stA (14 : Int) nd a n d s lk z l), (stA x10.1 x10.2.1 x10.2.2.1 x10.2.2.2.1 x10.2.2.2.2.1 x10.2.2.2.2.2.1 x10.2.2.2.2.2.2.1 x10.2.2.2.2.2.2.2.1 x10.2.2.2.2.2.2.2.2)] [])) fun x11 =>
 (rAsk (!x11) (eW 6)
 (rGet (fnS (oRw []) (P225 [] [])) fun x12 =>
 (rAsk (true && (true && (decide ((14 : Int) < (((List.length x12) : Nat) : Int)))))
 (rGet x12[14]? fun x13 =>
 (rGet (List.head? (List.drop 0 x13)) fun x14 =>
 (rGet (D.str? x14) fun x15 =>
 (rAsk (bleW ((ByteArray.size x15) + 1))
 (rGet (fnS (oS []) (P118 [(jn a)] [])) fun x16 =>
 (rAsk (bleW ((ByteArray.size (x15 ++ (ba [32]))) + (ByteArray.size x16)))
 (rAsk (decide (s > (0 : Int)))
 (rGet (fnS (oS []) (P118 [(jn s)] [])) fun x17 =>
 (rAsk (bleW (5 + (ByteArray.size x17)))
 (rAsk (bleW ((ByteArray.size ((ba [115, 116, 111, 112, 32]) ++ x17)) + 1))
 (rGet (fnS (oS []) (P215 [(AV.dat (D.list lk z l))] [])) fun x18 =>
 (rAsk (bleW ((ByteArray.size (((ba [115, 116, 111, 112, 32]) ++ x17) ++ (ba [32]))) + (ByteArray.size x18)))
 (rAsk (bleW ((ByteArray.size ((((ba [115, 116, 111, 112, 32]) ++ x17) ++ (ba [32])) ++ x18)) + 1))
 (rAsk (bleW ((ByteArray.size (((((ba [115, 116, 111, 112, 32]) ++ x17) ++ (ba [32])) ++ x18) ++ (ba [32]))) + (ByteArray.size ((x15 ++ (ba [32])) ++ x16))))
 (rAsk (decide ((((ByteArray.size ((((((ba [115, 116, 111, 112, 32]) ++ x17) ++ (ba [32])) ++ x18) ++ (ba [32])) ++ ((x15 ++ (ba [32])) ++ x16))) : Nat) : Int) > (300 : Int))) (eW 8) (vW ((((((ba [115, 116, 111, 112, 32]) ++ x17) ++ (ba [32])) ++ x18) ++ (ba [32])) ++ ((x15 ++ (ba [32])) ++ x16)))) none) none) none)) none) none))
 (rAsk (decide ((((ByteArray.size ((x15 ++ (ba [32])) ++ x16)) : Nat) : Int) > (300 : Int))) (eW 8) (vW ((x15 ++ (ba [32])) ++ x16)))) none)) none)))) none)))))))
  := by kernel_rfl
theorem q8_15_eq (nd a n : Int) (d : ByteArray) (s : Int) (lk : LK) (z : Nat) (l : Row) : (q8_15 nd a n d s lk z l).ev =
 --folded
 (rAsk (decide (s < (0 : Int))) (eW 6)
 (rAsk (decide (s > (0 : Int)))
 (rGet (fnS (oSt []) (P224 [(stA (15 : Int) nd a n d s lk z l)] [])) fun x1 =>
 (rGet (fnS (oB []) (P210 [(stA (15 : Int) nd a n d s lk z l), (stA x1.1 x1.2.1 x1.2.2.1 x1.2.2.2.1 x1.2.2.2.2.1 x1.2.2.2.2.2.1 x1.2.2.2.2.2.2.1 x1.2.2.2.2.2.2.2.1 x1.2.2.2.2.2.2.2.2)] [])) fun x2 =>
 (rAsk (!x2) (eW 6)
 (rGet (fnS (oRw []) (P225 [] [])) fun x3 =>
 (rAsk (true && (true && (decide ((15 : Int) < (((List.length x3) : Nat) : Int)))))
 (rGet x3[15]? fun x4 =>
 (rGet (List.head? (List.drop 0 x4)) fun x5 =>
 (rGet (D.str? x5) fun x6 =>
 (rAsk (bleW ((ByteArray.size x6) + 1))
 (rGet (fnS (oS []) (P118 [(jn nd)] [])) fun x7 =>
 (rAsk (bleW ((ByteArray.size (x6 ++ (ba [32]))) + (ByteArray.size x7)))
 (rAsk (decide (s > (0 : Int)))
 (rGet (fnS (oS []) (P118 [(jn s)] [])) fun x8 =>
 (rAsk (bleW (5 + (ByteArray.size x8)))
 (rAsk (bleW ((ByteArray.size ((ba [115, 116, 111, 112, 32]) ++ x8)) + 1))
 (rGet (fnS (oS []) (P215 [(AV.dat (D.list lk z l))] [])) fun x9 =>
 (rAsk (bleW ((ByteArray.size (((ba [115, 116, 111, 112, 32]) ++ x8) ++ (ba [32]))) + (ByteArray.size x9)))
 (rAsk (bleW ((ByteArray.size ((((ba [115, 116, 111, 112, 32]) ++ x8) ++ (ba [32])) ++ x9)) + 1))
 (rAsk (bleW ((ByteArray.size (((((ba [115, 116, 111, 112, 32]) ++ x8) ++ (ba [32])) ++ x9) ++ (ba [32]))) + (ByteArray.size ((x6 ++ (ba [32])) ++ x7))))
 (rAsk (decide ((((ByteArray.size ((((((ba [115, 116, 111, 112, 32]) ++ x8) ++ (ba [32])) ++ x9) ++ (ba [32])) ++ ((x6 ++ (ba [32])) ++ x7))) : Nat) : Int) > (300 : Int))) (eW 8) (vW ((((((ba [115, 116, 111, 112, 32]) ++ x8) ++ (ba [32])) ++ x9) ++ (ba [32])) ++ ((x6 ++ (ba [32])) ++ x7)))) none) none) none)) none) none))
 (rAsk (decide ((((ByteArray.size ((x6 ++ (ba [32])) ++ x7)) : Nat) : Int) > (300 : Int))) (eW 8) (vW ((x6 ++ (ba [32])) ++ x7)))) none)) none)))) none)))))
 (rGet (fnS (oSt []) (P224 [(stA (15 : Int) nd a n d s lk z l)] [])) fun x10 =>
 (rGet (fnS (oB []) (P210 [(stA (15 : Int) nd a n d s lk z l), (stA x10.1 x10.2.1 x10.2.2.1 x10.2.2.2.1 x10.2.2.2.2.1 x10.2.2.2.2.2.1 x10.2.2.2.2.2.2.1 x10.2.2.2.2.2.2.2.1 x10.2.2.2.2.2.2.2.2)] [])) fun x11 =>
 (rAsk (!x11) (eW 6)
 (rGet (fnS (oRw []) (P225 [] [])) fun x12 =>
 (rAsk (true && (true && (decide ((15 : Int) < (((List.length x12) : Nat) : Int)))))
 (rGet x12[15]? fun x13 =>
 (rGet (List.head? (List.drop 0 x13)) fun x14 =>
 (rGet (D.str? x14) fun x15 =>
 (rAsk (bleW ((ByteArray.size x15) + 1))
 (rGet (fnS (oS []) (P118 [(jn nd)] [])) fun x16 =>
 (rAsk (bleW ((ByteArray.size (x15 ++ (ba [32]))) + (ByteArray.size x16)))
 (rAsk (decide (s > (0 : Int)))
 (rGet (fnS (oS []) (P118 [(jn s)] [])) fun x17 =>
 (rAsk (bleW (5 + (ByteArray.size x17)))
 (rAsk (bleW ((ByteArray.size ((ba [115, 116, 111, 112, 32]) ++ x17)) + 1))
 (rGet (fnS (oS []) (P215 [(AV.dat (D.list lk z l))] [])) fun x18 =>
 (rAsk (bleW ((ByteArray.size (((ba [115, 116, 111, 112, 32]) ++ x17) ++ (ba [32]))) + (ByteArray.size x18)))
 (rAsk (bleW ((ByteArray.size ((((ba [115, 116, 111, 112, 32]) ++ x17) ++ (ba [32])) ++ x18)) + 1))
 (rAsk (bleW ((ByteArray.size (((((ba [115, 116, 111, 112, 32]) ++ x17) ++ (ba [32])) ++ x18) ++ (ba [32]))) + (ByteArray.size ((x15 ++ (ba [32])) ++ x16))))
 (rAsk (decide ((((ByteArray.size ((((((ba [115, 116, 111, 112, 32]) ++ x17) ++ (ba [32])) ++ x18) ++ (ba [32])) ++ ((x15 ++ (ba [32])) ++ x16))) : Nat) : Int) > (300 : Int))) (eW 8) (vW ((((((ba [115, 116, 111, 112, 32]) ++ x17) ++ (ba [32])) ++ x18) ++ (ba [32])) ++ ((x15 ++ (ba [32])) ++ x16)))) none) none) none)) none) none))
 (rAsk (decide ((((ByteArray.size ((x15 ++ (ba [32])) ++ x16)) : Nat) : Int) > (300 : Int))) (eW 8) (vW ((x15 ++ (ba [32])) ++ x16)))) none)) none)))) none)))))))
  := by kernel_rfl
theorem g23r_eq (s : ByteArray) : (g23r s).ev =
 --folded
 (some ((AV.dat (D.bool ((((ByteArray.size s) : Nat) : Int) == (64 : Int)))), []))
  := by kernel_rfl
theorem p223 (d : List UInt8) (G : List Ent) : P223 [.dat (.str (ba d))] G = some (oB G (decide (d.length = 64))) := by
  have e := g23r_eq (ba d)
  rw [Tr.ev_run, ba_sz] at e
  unfold P223
  refine pureS_eq (G0 := []) rfl (e.trans ?_) rfl
  have : ((((d.length : Nat) : Int)) == 64) = decide (d.length = 64) := by
    rw [Bool.eq_iff_iff, beq_iff_eq, decide_eq_true_eq]
    omega
  rw [this]
theorem itoa_le {v : Int} (h : fit64 v) : (Go.Lib.itoa v).length ≤ 21 := by
  obtain ⟨h0, h1⟩ := h
  unfold Go.Lib.itoa
  split
  · have := dec_len_lt 19 v.natAbs (by omega)
    rw [List.length_cons]; omega
  · have := dec_len_lt 19 v.toNat (by omega)
    omega
theorem short_le (l : List UInt8) : (shortB l).length ≤ 191 := by
  by_cases h : l.length = 64
  · exact (short_len h).1
  · unfold shortB
    rw [if_neg h]
    simp
/-- a line, or why there is none, as it is handed back -/
def lnS (x : Stw) : ByteArray × Int := (ba (lineS x).1, (lineS x).2)
theorem blT {n : Nat} (h : n ≤ 1000000 := by (simp only [ByteArray.size_append, ba_sz, List.length_cons, List.length_nil]; omega)) : bleW n = true := Nat.ble_eq_true_of_le (by omega)
theorem fin8 {X : ByteArray} {x : Stw} (ho : okW x = true) (h : X = ba (J (lineWd x))) : rAsk (decide (((X.size : Nat) : Int) > 300)) (eW 8) (vW X) = some (oLg [] (lnS x)) := by
  subst h
  unfold lnS lineS
  rw [if_pos ho, ba_sz]
  by_cases h3 : 300 < (J (lineWd x)).length
  · rw [if_pos h3]
    exact aT (by rw [decide_eq_true_eq]; omega) rfl
  · rw [if_neg h3]
    exact aF (by rw [decide_eq_false_iff_not]; omega) rfl
theorem ln6 {x : Stw} (ho : okW x = false) : eW 6 = some (oLg [] (lnS x)) := by
  unfold lnS lineS
  rw [if_neg (by rw [ho]; simp)]
  rfl
theorem ok_of {x : Stw} (h1 : 1 ≤ x.kind) (h2 : x.kind ≤ 15) (h3 : 0 ≤ x.stop) (h4 : ¬ (0 < x.stop ∧ x.kind = 12)) (h5 : x.kind = 2 → x.data.length = 64) (h6 : x = namedW x) : okW x = true := by
  unfold okW
  simp only [Bool.and_eq_true, decide_eq_true_eq]
  exact ⟨h1, h2, h3, h4, h5, h6⟩
theorem not_ok {x : Stw} (h : ¬ (1 ≤ x.kind ∧ x.kind ≤ 15 ∧ 0 ≤ x.stop ∧ ¬ (0 < x.stop ∧ x.kind = 12) ∧ (x.kind = 2 → x.data.length = 64) ∧ x = namedW x)) : okW x = false := by
  cases hk : okW x with
  | false => rfl
  | true => exact absurd (okW_parts hk) h
theorem nm_stv (x : Stw) (lk : LK) (z : Nat) (hz : x.keep ≠ [] → z = 1) : ∃ lk' z', (.agg (stT (nmT x lk z)) : AV) = stv (namedW x) lk' z' ∧ ((namedW x).keep ≠ [] → z' = 1) := by
  unfold nmT
  by_cases c : 0 < x.stop ∨ x.kind = 12
  · refine ⟨lk, z, ?_, fun h => hz ?_⟩
    · rw [if_pos c]
      unfold stv
      have : (namedW x).keep = x.keep := by
        show (if 0 < x.stop ∨ x.kind = 12 then x.keep else []) = x.keep
        rw [if_pos c]
      rw [this]
      rfl
    · have : (namedW x).keep = x.keep := by
        show (if 0 < x.stop ∨ x.kind = 12 then x.keep else []) = x.keep
        rw [if_pos c]
      rw [this] at h
      exact h
  · have : (namedW x).keep = [] := by
      show (if 0 < x.stop ∨ x.kind = 12 then x.keep else []) = []
      rw [if_neg c]
    refine ⟨.nil, 0, ?_, fun h => absurd this h⟩
    rw [if_neg c]
    unfold stv
    rw [this]
    rfl
theorem oSt_inj {G : List Ent} : ∀ x y, oSt G x = oSt G y → x = y := by
  rintro ⟨a, b, c, d, e, f, g, h, i⟩ ⟨a', b', c', d', e', f', g', h', i'⟩ q
  simp [oSt, stT, stC, jn] at q
  obtain ⟨rfl, rfl, rfl, rfl, rfl, rfl, rfl, rfl, rfl⟩ := q
  rfl
attribute [local irreducible] fnS loS P224 P210 P225 P118 P10 P215 P223
theorem ref_1 {nd a n s : Int} {d : List UInt8} {lk : LK} {z : Nat} {l : List Bool} (hn : fit64 nd) (ha : fit64 a) (hm : fit64 n) (hsf : fit64 s) (hl : l.length ≤ 10000) (hz : l ≠ [] → z = 1) : R208 [stv ⟨1, nd, a, n, d, s, l⟩ lk z] [] = some (oLg [] (lnS ⟨1, nd, a, n, d, s, l⟩)) := by
  have key : ∀ o, (q8_1 nd a n (ba d) s lk z (encB l)).ev = o → R208 [stv ⟨1, nd, a, n, d, s, l⟩ lk z] [] = o := fun o h => by
    rw [Tr.ev_run] at h
    exact h
  refine key _ ?_
  rw [q8_1_eq]
  have hA := itoa_le ha
  have ea := fnS_eq (out := oS []) oS_inj (p118 ha [])
  have hL := keepW_len l
  have el := fnS_eq (out := oS []) oS_inj (p215 (k := lk) (z := z) (l := l) hz (by omega) [])
  have hS := itoa_le hsf
  have es := fnS_eq (out := oS []) oS_inj (p118 hsf [])
  have hK : (kindW 1).length ≤ 10 := by decide
  have e24 := fnS_eq (out := oSt []) oSt_inj (p224 (x := ⟨1, nd, a, n, d, s, l⟩) (lk := lk) (z := z) ⟨show fit64 1 by unfold fit64; omega, hn, ha, hm, hsf⟩ (show (1 : Int) ≤ 1 by decide) (show (1 : Int) ≤ 15 by decide) (show l.length ≤ 100000 by omega) [])
  obtain ⟨lk', z', hnm, hz'⟩ := nm_stv ⟨1, nd, a, n, d, s, l⟩ lk z hz
  have e10 := fnS_eq (out := oB []) oB_inj (p210 (x := ⟨1, nd, a, n, d, s, l⟩) (y := namedW ⟨1, nd, a, n, d, s, l⟩) (lk := lk) (z := z) (lk' := lk') (z' := z') (show l.length ≤ 100000 by omega) hz hz' [])
  rw [← hnm] at e10
  have e25 := fnS_eq (out := oRw []) oRw_inj (p225 [])
  by_cases h0 : s < 0
  · exact aT (decide_eq_true h0) (ln6 (not_ok (by simp only; omega)))
  refine aF (decide_eq_false h0) ?_
  by_cases hs : 0 < s
  · refine aT (decide_eq_true hs) ?_
    by_cases hnq : (⟨1, nd, a, n, d, s, l⟩ : Stw) = namedW ⟨1, nd, a, n, d, s, l⟩
    case neg => exact gStep e24 (gStep e10 (aT (by rw [decide_eq_false hnq]; rfl) (ln6 (not_ok fun q => hnq q.2.2.2.2.2))))
    have ho : okW ⟨1, nd, a, n, d, s, l⟩ = true := ok_of (show (1 : Int) ≤ 1 by decide) (show (1 : Int) ≤ 15 by decide) (show 0 ≤ s by omega) (show ¬ (0 < s ∧ (1 : Int) = 12) by omega) (fun q => absurd (show (1 : Int) = 2 from q) (by decide)) hnq
    refine gStep e24 (gStep e10 (aF (by rw [decide_eq_true hnq]; rfl) ?_))
    have hJ : lineWd ⟨1, nd, a, n, d, s, l⟩ = [wStop, Go.Lib.itoa s, keepW l, kindW 1, Go.Lib.itoa a] := by
      unfold lineWd stopW
      rw [if_pos hs]
      rfl
    refine gStep e25 (aT rfl (gStep (x := [.str (ba (kindW 1))]) rfl (gStep (x := .str (ba (kindW 1))) rfl (gStep (x := ba (kindW 1)) rfl (aT blT (gStep ea (aT blT (aT (decide_eq_true hs) (gStep es (aT blT (aT blT (gStep el (aT blT (aT blT (aT blT (fin8 ho ?_))))))))))))))))
    rw [hJ]
    simp only [ba_app]
    exact congrArg ba (by simp only [J_cons, J_one]; simp [wStop])
  · refine aF (decide_eq_false hs) ?_
    by_cases hnq : (⟨1, nd, a, n, d, s, l⟩ : Stw) = namedW ⟨1, nd, a, n, d, s, l⟩
    case neg => exact gStep e24 (gStep e10 (aT (by rw [decide_eq_false hnq]; rfl) (ln6 (not_ok fun q => hnq q.2.2.2.2.2))))
    have ho : okW ⟨1, nd, a, n, d, s, l⟩ = true := ok_of (show (1 : Int) ≤ 1 by decide) (show (1 : Int) ≤ 15 by decide) (show 0 ≤ s by omega) (show ¬ (0 < s ∧ (1 : Int) = 12) by omega) (fun q => absurd (show (1 : Int) = 2 from q) (by decide)) hnq
    refine gStep e24 (gStep e10 (aF (by rw [decide_eq_true hnq]; rfl) ?_))
    have hJ : lineWd ⟨1, nd, a, n, d, s, l⟩ = [kindW 1, Go.Lib.itoa a] := by
      unfold lineWd stopW
      rw [if_neg hs]
      rfl
    refine gStep e25 (aT rfl (gStep (x := [.str (ba (kindW 1))]) rfl (gStep (x := .str (ba (kindW 1))) rfl (gStep (x := ba (kindW 1)) rfl (aT blT (gStep ea (aT blT (aF (decide_eq_false hs) (fin8 ho ?_)))))))))
    rw [hJ]
    simp only [ba_app]
    exact congrArg ba (by simp only [J_cons, J_one]; simp [wStop])
theorem ref_2 {nd a n s : Int} {d : List UInt8} {lk : LK} {z : Nat} {l : List Bool} (hn : fit64 nd) (ha : fit64 a) (hm : fit64 n) (hsf : fit64 s) (hl : l.length ≤ 10000) (hz : l ≠ [] → z = 1) : R208 [stv ⟨2, nd, a, n, d, s, l⟩ lk z] [] = some (oLg [] (lnS ⟨2, nd, a, n, d, s, l⟩)) := by
  have key : ∀ o, (q8_2 nd a n (ba d) s lk z (encB l)).ev = o → R208 [stv ⟨2, nd, a, n, d, s, l⟩ lk z] [] = o := fun o h => by
    rw [Tr.ev_run] at h
    exact h
  refine key _ ?_
  rw [q8_2_eq]
  have hA := itoa_le ha
  have ea := fnS_eq (out := oS []) oS_inj (p118 ha [])
  have hW := short_le d
  have ew := fnS_eq (out := oS []) oS_inj (p10 (l := d) (G := []))
  have hL := keepW_len l
  have el := fnS_eq (out := oS []) oS_inj (p215 (k := lk) (z := z) (l := l) hz (by omega) [])
  have hS := itoa_le hsf
  have es := fnS_eq (out := oS []) oS_inj (p118 hsf [])
  have hK : (kindW 2).length ≤ 10 := by decide
  have e24 := fnS_eq (out := oSt []) oSt_inj (p224 (x := ⟨2, nd, a, n, d, s, l⟩) (lk := lk) (z := z) ⟨show fit64 2 by unfold fit64; omega, hn, ha, hm, hsf⟩ (show (1 : Int) ≤ 2 by decide) (show (2 : Int) ≤ 15 by decide) (show l.length ≤ 100000 by omega) [])
  obtain ⟨lk', z', hnm, hz'⟩ := nm_stv ⟨2, nd, a, n, d, s, l⟩ lk z hz
  have e10 := fnS_eq (out := oB []) oB_inj (p210 (x := ⟨2, nd, a, n, d, s, l⟩) (y := namedW ⟨2, nd, a, n, d, s, l⟩) (lk := lk) (z := z) (lk' := lk') (z' := z') (show l.length ≤ 100000 by omega) hz hz' [])
  rw [← hnm] at e10
  have e25 := fnS_eq (out := oRw []) oRw_inj (p225 [])
  have e23 := fnS_eq (out := oB []) oB_inj (p223 d [])
  by_cases h0 : s < 0
  · exact aT (decide_eq_true h0) (ln6 (not_ok (by simp only; omega)))
  refine aF (decide_eq_false h0) ?_
  by_cases hs : 0 < s
  · refine aT (decide_eq_true hs) ?_
    by_cases h64 : d.length = 64
    case neg => exact gStep e23 (aT (by rw [decide_eq_false h64]; rfl) (ln6 (not_ok fun q => h64 (q.2.2.2.2.1 rfl))))
    refine gStep e23 (aF (by rw [decide_eq_true h64]; rfl) ?_)
    by_cases hnq : (⟨2, nd, a, n, d, s, l⟩ : Stw) = namedW ⟨2, nd, a, n, d, s, l⟩
    case neg => exact gStep e24 (gStep e10 (aT (by rw [decide_eq_false hnq]; rfl) (ln6 (not_ok fun q => hnq q.2.2.2.2.2))))
    have ho : okW ⟨2, nd, a, n, d, s, l⟩ = true := ok_of (show (1 : Int) ≤ 2 by decide) (show (2 : Int) ≤ 15 by decide) (show 0 ≤ s by omega) (show ¬ (0 < s ∧ (2 : Int) = 12) by omega) (fun _ => h64) hnq
    refine gStep e24 (gStep e10 (aF (by rw [decide_eq_true hnq]; rfl) ?_))
    have hJ : lineWd ⟨2, nd, a, n, d, s, l⟩ = [wStop, Go.Lib.itoa s, keepW l, kindW 2, Go.Lib.itoa a, shortB d] := by
      unfold lineWd stopW
      rw [if_pos hs]
      rfl
    refine gStep e25 (aT rfl (gStep (x := [.str (ba (kindW 2))]) rfl (gStep (x := .str (ba (kindW 2))) rfl (gStep (x := ba (kindW 2)) rfl (aT blT (gStep ea (aT blT (aT blT (gStep ew (aT blT (aT (decide_eq_true hs) (gStep es (aT blT (aT blT (gStep el (aT blT (aT blT (aT blT (fin8 ho ?_)))))))))))))))))))
    rw [hJ]
    simp only [ba_app]
    exact congrArg ba (by simp only [J_cons, J_one]; simp [wStop])
  · refine aF (decide_eq_false hs) ?_
    by_cases h64 : d.length = 64
    case neg => exact gStep e23 (aT (by rw [decide_eq_false h64]; rfl) (ln6 (not_ok fun q => h64 (q.2.2.2.2.1 rfl))))
    refine gStep e23 (aF (by rw [decide_eq_true h64]; rfl) ?_)
    by_cases hnq : (⟨2, nd, a, n, d, s, l⟩ : Stw) = namedW ⟨2, nd, a, n, d, s, l⟩
    case neg => exact gStep e24 (gStep e10 (aT (by rw [decide_eq_false hnq]; rfl) (ln6 (not_ok fun q => hnq q.2.2.2.2.2))))
    have ho : okW ⟨2, nd, a, n, d, s, l⟩ = true := ok_of (show (1 : Int) ≤ 2 by decide) (show (2 : Int) ≤ 15 by decide) (show 0 ≤ s by omega) (show ¬ (0 < s ∧ (2 : Int) = 12) by omega) (fun _ => h64) hnq
    refine gStep e24 (gStep e10 (aF (by rw [decide_eq_true hnq]; rfl) ?_))
    have hJ : lineWd ⟨2, nd, a, n, d, s, l⟩ = [kindW 2, Go.Lib.itoa a, shortB d] := by
      unfold lineWd stopW
      rw [if_neg hs]
      rfl
    refine gStep e25 (aT rfl (gStep (x := [.str (ba (kindW 2))]) rfl (gStep (x := .str (ba (kindW 2))) rfl (gStep (x := ba (kindW 2)) rfl (aT blT (gStep ea (aT blT (aT blT (gStep ew (aT blT (aF (decide_eq_false hs) (fin8 ho ?_))))))))))))
    rw [hJ]
    simp only [ba_app]
    exact congrArg ba (by simp only [J_cons, J_one]; simp [wStop])
theorem ref_3 {nd a n s : Int} {d : List UInt8} {lk : LK} {z : Nat} {l : List Bool} (hn : fit64 nd) (ha : fit64 a) (hm : fit64 n) (hsf : fit64 s) (hl : l.length ≤ 10000) (hz : l ≠ [] → z = 1) : R208 [stv ⟨3, nd, a, n, d, s, l⟩ lk z] [] = some (oLg [] (lnS ⟨3, nd, a, n, d, s, l⟩)) := by
  have key : ∀ o, (q8_3 nd a n (ba d) s lk z (encB l)).ev = o → R208 [stv ⟨3, nd, a, n, d, s, l⟩ lk z] [] = o := fun o h => by
    rw [Tr.ev_run] at h
    exact h
  refine key _ ?_
  rw [q8_3_eq]
  have hL := keepW_len l
  have el := fnS_eq (out := oS []) oS_inj (p215 (k := lk) (z := z) (l := l) hz (by omega) [])
  have hS := itoa_le hsf
  have es := fnS_eq (out := oS []) oS_inj (p118 hsf [])
  have hK : (kindW 3).length ≤ 10 := by decide
  have e24 := fnS_eq (out := oSt []) oSt_inj (p224 (x := ⟨3, nd, a, n, d, s, l⟩) (lk := lk) (z := z) ⟨show fit64 3 by unfold fit64; omega, hn, ha, hm, hsf⟩ (show (1 : Int) ≤ 3 by decide) (show (3 : Int) ≤ 15 by decide) (show l.length ≤ 100000 by omega) [])
  obtain ⟨lk', z', hnm, hz'⟩ := nm_stv ⟨3, nd, a, n, d, s, l⟩ lk z hz
  have e10 := fnS_eq (out := oB []) oB_inj (p210 (x := ⟨3, nd, a, n, d, s, l⟩) (y := namedW ⟨3, nd, a, n, d, s, l⟩) (lk := lk) (z := z) (lk' := lk') (z' := z') (show l.length ≤ 100000 by omega) hz hz' [])
  rw [← hnm] at e10
  have e25 := fnS_eq (out := oRw []) oRw_inj (p225 [])
  by_cases h0 : s < 0
  · exact aT (decide_eq_true h0) (ln6 (not_ok (by simp only; omega)))
  refine aF (decide_eq_false h0) ?_
  by_cases hs : 0 < s
  · refine aT (decide_eq_true hs) ?_
    by_cases hnq : (⟨3, nd, a, n, d, s, l⟩ : Stw) = namedW ⟨3, nd, a, n, d, s, l⟩
    case neg => exact gStep e24 (gStep e10 (aT (by rw [decide_eq_false hnq]; rfl) (ln6 (not_ok fun q => hnq q.2.2.2.2.2))))
    have ho : okW ⟨3, nd, a, n, d, s, l⟩ = true := ok_of (show (1 : Int) ≤ 3 by decide) (show (3 : Int) ≤ 15 by decide) (show 0 ≤ s by omega) (show ¬ (0 < s ∧ (3 : Int) = 12) by omega) (fun q => absurd (show (3 : Int) = 2 from q) (by decide)) hnq
    refine gStep e24 (gStep e10 (aF (by rw [decide_eq_true hnq]; rfl) ?_))
    have hJ : lineWd ⟨3, nd, a, n, d, s, l⟩ = [wStop, Go.Lib.itoa s, keepW l, kindW 3] := by
      unfold lineWd stopW
      rw [if_pos hs]
      rfl
    refine gStep e25 (aT rfl (gStep (x := [.str (ba (kindW 3))]) rfl (gStep (x := .str (ba (kindW 3))) rfl (aT (decide_eq_true hs) (gStep es (aT blT (aT blT (gStep el (aT blT (aT blT (gStep (x := ba (kindW 3)) rfl (aT blT (fin8 ho ?_)))))))))))))
    rw [hJ]
    simp only [ba_app]
    exact congrArg ba (by simp only [J_cons, J_one]; simp [wStop])
  · refine aF (decide_eq_false hs) ?_
    by_cases hnq : (⟨3, nd, a, n, d, s, l⟩ : Stw) = namedW ⟨3, nd, a, n, d, s, l⟩
    case neg => exact gStep e24 (gStep e10 (aT (by rw [decide_eq_false hnq]; rfl) (ln6 (not_ok fun q => hnq q.2.2.2.2.2))))
    have ho : okW ⟨3, nd, a, n, d, s, l⟩ = true := ok_of (show (1 : Int) ≤ 3 by decide) (show (3 : Int) ≤ 15 by decide) (show 0 ≤ s by omega) (show ¬ (0 < s ∧ (3 : Int) = 12) by omega) (fun q => absurd (show (3 : Int) = 2 from q) (by decide)) hnq
    refine gStep e24 (gStep e10 (aF (by rw [decide_eq_true hnq]; rfl) ?_))
    have hJ : lineWd ⟨3, nd, a, n, d, s, l⟩ = [kindW 3] := by
      unfold lineWd stopW
      rw [if_neg hs]
      rfl
    refine gStep e25 (aT rfl (gStep (x := [.str (ba (kindW 3))]) rfl (gStep (x := .str (ba (kindW 3))) rfl (aF (decide_eq_false hs) (gStep (x := ba (kindW 3)) rfl (fin8 ho ?_))))))
    rw [hJ]
    exact congrArg ba (J_one _).symm
theorem ref_4 {nd a n s : Int} {d : List UInt8} {lk : LK} {z : Nat} {l : List Bool} (hn : fit64 nd) (ha : fit64 a) (hm : fit64 n) (hsf : fit64 s) (hl : l.length ≤ 10000) (hz : l ≠ [] → z = 1) : R208 [stv ⟨4, nd, a, n, d, s, l⟩ lk z] [] = some (oLg [] (lnS ⟨4, nd, a, n, d, s, l⟩)) := by
  have key : ∀ o, (q8_4 nd a n (ba d) s lk z (encB l)).ev = o → R208 [stv ⟨4, nd, a, n, d, s, l⟩ lk z] [] = o := fun o h => by
    rw [Tr.ev_run] at h
    exact h
  refine key _ ?_
  rw [q8_4_eq]
  have hL := keepW_len l
  have el := fnS_eq (out := oS []) oS_inj (p215 (k := lk) (z := z) (l := l) hz (by omega) [])
  have hS := itoa_le hsf
  have es := fnS_eq (out := oS []) oS_inj (p118 hsf [])
  have hK : (kindW 4).length ≤ 10 := by decide
  have e24 := fnS_eq (out := oSt []) oSt_inj (p224 (x := ⟨4, nd, a, n, d, s, l⟩) (lk := lk) (z := z) ⟨show fit64 4 by unfold fit64; omega, hn, ha, hm, hsf⟩ (show (1 : Int) ≤ 4 by decide) (show (4 : Int) ≤ 15 by decide) (show l.length ≤ 100000 by omega) [])
  obtain ⟨lk', z', hnm, hz'⟩ := nm_stv ⟨4, nd, a, n, d, s, l⟩ lk z hz
  have e10 := fnS_eq (out := oB []) oB_inj (p210 (x := ⟨4, nd, a, n, d, s, l⟩) (y := namedW ⟨4, nd, a, n, d, s, l⟩) (lk := lk) (z := z) (lk' := lk') (z' := z') (show l.length ≤ 100000 by omega) hz hz' [])
  rw [← hnm] at e10
  have e25 := fnS_eq (out := oRw []) oRw_inj (p225 [])
  by_cases h0 : s < 0
  · exact aT (decide_eq_true h0) (ln6 (not_ok (by simp only; omega)))
  refine aF (decide_eq_false h0) ?_
  by_cases hs : 0 < s
  · refine aT (decide_eq_true hs) ?_
    by_cases hnq : (⟨4, nd, a, n, d, s, l⟩ : Stw) = namedW ⟨4, nd, a, n, d, s, l⟩
    case neg => exact gStep e24 (gStep e10 (aT (by rw [decide_eq_false hnq]; rfl) (ln6 (not_ok fun q => hnq q.2.2.2.2.2))))
    have ho : okW ⟨4, nd, a, n, d, s, l⟩ = true := ok_of (show (1 : Int) ≤ 4 by decide) (show (4 : Int) ≤ 15 by decide) (show 0 ≤ s by omega) (show ¬ (0 < s ∧ (4 : Int) = 12) by omega) (fun q => absurd (show (4 : Int) = 2 from q) (by decide)) hnq
    refine gStep e24 (gStep e10 (aF (by rw [decide_eq_true hnq]; rfl) ?_))
    have hJ : lineWd ⟨4, nd, a, n, d, s, l⟩ = [wStop, Go.Lib.itoa s, keepW l, kindW 4] := by
      unfold lineWd stopW
      rw [if_pos hs]
      rfl
    refine gStep e25 (aT rfl (gStep (x := [.str (ba (kindW 4))]) rfl (gStep (x := .str (ba (kindW 4))) rfl (aT (decide_eq_true hs) (gStep es (aT blT (aT blT (gStep el (aT blT (aT blT (gStep (x := ba (kindW 4)) rfl (aT blT (fin8 ho ?_)))))))))))))
    rw [hJ]
    simp only [ba_app]
    exact congrArg ba (by simp only [J_cons, J_one]; simp [wStop])
  · refine aF (decide_eq_false hs) ?_
    by_cases hnq : (⟨4, nd, a, n, d, s, l⟩ : Stw) = namedW ⟨4, nd, a, n, d, s, l⟩
    case neg => exact gStep e24 (gStep e10 (aT (by rw [decide_eq_false hnq]; rfl) (ln6 (not_ok fun q => hnq q.2.2.2.2.2))))
    have ho : okW ⟨4, nd, a, n, d, s, l⟩ = true := ok_of (show (1 : Int) ≤ 4 by decide) (show (4 : Int) ≤ 15 by decide) (show 0 ≤ s by omega) (show ¬ (0 < s ∧ (4 : Int) = 12) by omega) (fun q => absurd (show (4 : Int) = 2 from q) (by decide)) hnq
    refine gStep e24 (gStep e10 (aF (by rw [decide_eq_true hnq]; rfl) ?_))
    have hJ : lineWd ⟨4, nd, a, n, d, s, l⟩ = [kindW 4] := by
      unfold lineWd stopW
      rw [if_neg hs]
      rfl
    refine gStep e25 (aT rfl (gStep (x := [.str (ba (kindW 4))]) rfl (gStep (x := .str (ba (kindW 4))) rfl (aF (decide_eq_false hs) (gStep (x := ba (kindW 4)) rfl (fin8 ho ?_))))))
    rw [hJ]
    exact congrArg ba (J_one _).symm
theorem ref_5 {nd a n s : Int} {d : List UInt8} {lk : LK} {z : Nat} {l : List Bool} (hn : fit64 nd) (ha : fit64 a) (hm : fit64 n) (hsf : fit64 s) (hl : l.length ≤ 10000) (hz : l ≠ [] → z = 1) : R208 [stv ⟨5, nd, a, n, d, s, l⟩ lk z] [] = some (oLg [] (lnS ⟨5, nd, a, n, d, s, l⟩)) := by
  have key : ∀ o, (q8_5 nd a n (ba d) s lk z (encB l)).ev = o → R208 [stv ⟨5, nd, a, n, d, s, l⟩ lk z] [] = o := fun o h => by
    rw [Tr.ev_run] at h
    exact h
  refine key _ ?_
  rw [q8_5_eq]
  have hL := keepW_len l
  have el := fnS_eq (out := oS []) oS_inj (p215 (k := lk) (z := z) (l := l) hz (by omega) [])
  have hS := itoa_le hsf
  have es := fnS_eq (out := oS []) oS_inj (p118 hsf [])
  have hK : (kindW 5).length ≤ 10 := by decide
  have e24 := fnS_eq (out := oSt []) oSt_inj (p224 (x := ⟨5, nd, a, n, d, s, l⟩) (lk := lk) (z := z) ⟨show fit64 5 by unfold fit64; omega, hn, ha, hm, hsf⟩ (show (1 : Int) ≤ 5 by decide) (show (5 : Int) ≤ 15 by decide) (show l.length ≤ 100000 by omega) [])
  obtain ⟨lk', z', hnm, hz'⟩ := nm_stv ⟨5, nd, a, n, d, s, l⟩ lk z hz
  have e10 := fnS_eq (out := oB []) oB_inj (p210 (x := ⟨5, nd, a, n, d, s, l⟩) (y := namedW ⟨5, nd, a, n, d, s, l⟩) (lk := lk) (z := z) (lk' := lk') (z' := z') (show l.length ≤ 100000 by omega) hz hz' [])
  rw [← hnm] at e10
  have e25 := fnS_eq (out := oRw []) oRw_inj (p225 [])
  by_cases h0 : s < 0
  · exact aT (decide_eq_true h0) (ln6 (not_ok (by simp only; omega)))
  refine aF (decide_eq_false h0) ?_
  by_cases hs : 0 < s
  · refine aT (decide_eq_true hs) ?_
    by_cases hnq : (⟨5, nd, a, n, d, s, l⟩ : Stw) = namedW ⟨5, nd, a, n, d, s, l⟩
    case neg => exact gStep e24 (gStep e10 (aT (by rw [decide_eq_false hnq]; rfl) (ln6 (not_ok fun q => hnq q.2.2.2.2.2))))
    have ho : okW ⟨5, nd, a, n, d, s, l⟩ = true := ok_of (show (1 : Int) ≤ 5 by decide) (show (5 : Int) ≤ 15 by decide) (show 0 ≤ s by omega) (show ¬ (0 < s ∧ (5 : Int) = 12) by omega) (fun q => absurd (show (5 : Int) = 2 from q) (by decide)) hnq
    refine gStep e24 (gStep e10 (aF (by rw [decide_eq_true hnq]; rfl) ?_))
    have hJ : lineWd ⟨5, nd, a, n, d, s, l⟩ = [wStop, Go.Lib.itoa s, keepW l, kindW 5] := by
      unfold lineWd stopW
      rw [if_pos hs]
      rfl
    refine gStep e25 (aT rfl (gStep (x := [.str (ba (kindW 5))]) rfl (gStep (x := .str (ba (kindW 5))) rfl (aT (decide_eq_true hs) (gStep es (aT blT (aT blT (gStep el (aT blT (aT blT (gStep (x := ba (kindW 5)) rfl (aT blT (fin8 ho ?_)))))))))))))
    rw [hJ]
    simp only [ba_app]
    exact congrArg ba (by simp only [J_cons, J_one]; simp [wStop])
  · refine aF (decide_eq_false hs) ?_
    by_cases hnq : (⟨5, nd, a, n, d, s, l⟩ : Stw) = namedW ⟨5, nd, a, n, d, s, l⟩
    case neg => exact gStep e24 (gStep e10 (aT (by rw [decide_eq_false hnq]; rfl) (ln6 (not_ok fun q => hnq q.2.2.2.2.2))))
    have ho : okW ⟨5, nd, a, n, d, s, l⟩ = true := ok_of (show (1 : Int) ≤ 5 by decide) (show (5 : Int) ≤ 15 by decide) (show 0 ≤ s by omega) (show ¬ (0 < s ∧ (5 : Int) = 12) by omega) (fun q => absurd (show (5 : Int) = 2 from q) (by decide)) hnq
    refine gStep e24 (gStep e10 (aF (by rw [decide_eq_true hnq]; rfl) ?_))
    have hJ : lineWd ⟨5, nd, a, n, d, s, l⟩ = [kindW 5] := by
      unfold lineWd stopW
      rw [if_neg hs]
      rfl
    refine gStep e25 (aT rfl (gStep (x := [.str (ba (kindW 5))]) rfl (gStep (x := .str (ba (kindW 5))) rfl (aF (decide_eq_false hs) (gStep (x := ba (kindW 5)) rfl (fin8 ho ?_))))))
    rw [hJ]
    exact congrArg ba (J_one _).symm
theorem ref_6 {nd a n s : Int} {d : List UInt8} {lk : LK} {z : Nat} {l : List Bool} (hn : fit64 nd) (ha : fit64 a) (hm : fit64 n) (hsf : fit64 s) (hl : l.length ≤ 10000) (hz : l ≠ [] → z = 1) : R208 [stv ⟨6, nd, a, n, d, s, l⟩ lk z] [] = some (oLg [] (lnS ⟨6, nd, a, n, d, s, l⟩)) := by
  have key : ∀ o, (q8_6 nd a n (ba d) s lk z (encB l)).ev = o → R208 [stv ⟨6, nd, a, n, d, s, l⟩ lk z] [] = o := fun o h => by
    rw [Tr.ev_run] at h
    exact h
  refine key _ ?_
  rw [q8_6_eq]
  have hN := itoa_le hn
  have en := fnS_eq (out := oS []) oS_inj (p118 hn [])
  have hL := keepW_len l
  have el := fnS_eq (out := oS []) oS_inj (p215 (k := lk) (z := z) (l := l) hz (by omega) [])
  have hS := itoa_le hsf
  have es := fnS_eq (out := oS []) oS_inj (p118 hsf [])
  have hK : (kindW 6).length ≤ 10 := by decide
  have e24 := fnS_eq (out := oSt []) oSt_inj (p224 (x := ⟨6, nd, a, n, d, s, l⟩) (lk := lk) (z := z) ⟨show fit64 6 by unfold fit64; omega, hn, ha, hm, hsf⟩ (show (1 : Int) ≤ 6 by decide) (show (6 : Int) ≤ 15 by decide) (show l.length ≤ 100000 by omega) [])
  obtain ⟨lk', z', hnm, hz'⟩ := nm_stv ⟨6, nd, a, n, d, s, l⟩ lk z hz
  have e10 := fnS_eq (out := oB []) oB_inj (p210 (x := ⟨6, nd, a, n, d, s, l⟩) (y := namedW ⟨6, nd, a, n, d, s, l⟩) (lk := lk) (z := z) (lk' := lk') (z' := z') (show l.length ≤ 100000 by omega) hz hz' [])
  rw [← hnm] at e10
  have e25 := fnS_eq (out := oRw []) oRw_inj (p225 [])
  by_cases h0 : s < 0
  · exact aT (decide_eq_true h0) (ln6 (not_ok (by simp only; omega)))
  refine aF (decide_eq_false h0) ?_
  by_cases hs : 0 < s
  · refine aT (decide_eq_true hs) ?_
    by_cases hnq : (⟨6, nd, a, n, d, s, l⟩ : Stw) = namedW ⟨6, nd, a, n, d, s, l⟩
    case neg => exact gStep e24 (gStep e10 (aT (by rw [decide_eq_false hnq]; rfl) (ln6 (not_ok fun q => hnq q.2.2.2.2.2))))
    have ho : okW ⟨6, nd, a, n, d, s, l⟩ = true := ok_of (show (1 : Int) ≤ 6 by decide) (show (6 : Int) ≤ 15 by decide) (show 0 ≤ s by omega) (show ¬ (0 < s ∧ (6 : Int) = 12) by omega) (fun q => absurd (show (6 : Int) = 2 from q) (by decide)) hnq
    refine gStep e24 (gStep e10 (aF (by rw [decide_eq_true hnq]; rfl) ?_))
    have hJ : lineWd ⟨6, nd, a, n, d, s, l⟩ = [wStop, Go.Lib.itoa s, keepW l, kindW 6, Go.Lib.itoa nd] := by
      unfold lineWd stopW
      rw [if_pos hs]
      rfl
    refine gStep e25 (aT rfl (gStep (x := [.str (ba (kindW 6))]) rfl (gStep (x := .str (ba (kindW 6))) rfl (gStep (x := ba (kindW 6)) rfl (aT blT (gStep en (aT blT (aT (decide_eq_true hs) (gStep es (aT blT (aT blT (gStep el (aT blT (aT blT (aT blT (fin8 ho ?_))))))))))))))))
    rw [hJ]
    simp only [ba_app]
    exact congrArg ba (by simp only [J_cons, J_one]; simp [wStop])
  · refine aF (decide_eq_false hs) ?_
    by_cases hnq : (⟨6, nd, a, n, d, s, l⟩ : Stw) = namedW ⟨6, nd, a, n, d, s, l⟩
    case neg => exact gStep e24 (gStep e10 (aT (by rw [decide_eq_false hnq]; rfl) (ln6 (not_ok fun q => hnq q.2.2.2.2.2))))
    have ho : okW ⟨6, nd, a, n, d, s, l⟩ = true := ok_of (show (1 : Int) ≤ 6 by decide) (show (6 : Int) ≤ 15 by decide) (show 0 ≤ s by omega) (show ¬ (0 < s ∧ (6 : Int) = 12) by omega) (fun q => absurd (show (6 : Int) = 2 from q) (by decide)) hnq
    refine gStep e24 (gStep e10 (aF (by rw [decide_eq_true hnq]; rfl) ?_))
    have hJ : lineWd ⟨6, nd, a, n, d, s, l⟩ = [kindW 6, Go.Lib.itoa nd] := by
      unfold lineWd stopW
      rw [if_neg hs]
      rfl
    refine gStep e25 (aT rfl (gStep (x := [.str (ba (kindW 6))]) rfl (gStep (x := .str (ba (kindW 6))) rfl (gStep (x := ba (kindW 6)) rfl (aT blT (gStep en (aT blT (aF (decide_eq_false hs) (fin8 ho ?_)))))))))
    rw [hJ]
    simp only [ba_app]
    exact congrArg ba (by simp only [J_cons, J_one]; simp [wStop])
theorem ref_7 {nd a n s : Int} {d : List UInt8} {lk : LK} {z : Nat} {l : List Bool} (hn : fit64 nd) (ha : fit64 a) (hm : fit64 n) (hsf : fit64 s) (hl : l.length ≤ 10000) (hz : l ≠ [] → z = 1) : R208 [stv ⟨7, nd, a, n, d, s, l⟩ lk z] [] = some (oLg [] (lnS ⟨7, nd, a, n, d, s, l⟩)) := by
  have key : ∀ o, (q8_7 nd a n (ba d) s lk z (encB l)).ev = o → R208 [stv ⟨7, nd, a, n, d, s, l⟩ lk z] [] = o := fun o h => by
    rw [Tr.ev_run] at h
    exact h
  refine key _ ?_
  rw [q8_7_eq]
  have hM := itoa_le hm
  have em := fnS_eq (out := oS []) oS_inj (p118 hm [])
  have hL := keepW_len l
  have el := fnS_eq (out := oS []) oS_inj (p215 (k := lk) (z := z) (l := l) hz (by omega) [])
  have hS := itoa_le hsf
  have es := fnS_eq (out := oS []) oS_inj (p118 hsf [])
  have hK : (kindW 7).length ≤ 10 := by decide
  have e24 := fnS_eq (out := oSt []) oSt_inj (p224 (x := ⟨7, nd, a, n, d, s, l⟩) (lk := lk) (z := z) ⟨show fit64 7 by unfold fit64; omega, hn, ha, hm, hsf⟩ (show (1 : Int) ≤ 7 by decide) (show (7 : Int) ≤ 15 by decide) (show l.length ≤ 100000 by omega) [])
  obtain ⟨lk', z', hnm, hz'⟩ := nm_stv ⟨7, nd, a, n, d, s, l⟩ lk z hz
  have e10 := fnS_eq (out := oB []) oB_inj (p210 (x := ⟨7, nd, a, n, d, s, l⟩) (y := namedW ⟨7, nd, a, n, d, s, l⟩) (lk := lk) (z := z) (lk' := lk') (z' := z') (show l.length ≤ 100000 by omega) hz hz' [])
  rw [← hnm] at e10
  have e25 := fnS_eq (out := oRw []) oRw_inj (p225 [])
  by_cases h0 : s < 0
  · exact aT (decide_eq_true h0) (ln6 (not_ok (by simp only; omega)))
  refine aF (decide_eq_false h0) ?_
  by_cases hs : 0 < s
  · refine aT (decide_eq_true hs) ?_
    by_cases hnq : (⟨7, nd, a, n, d, s, l⟩ : Stw) = namedW ⟨7, nd, a, n, d, s, l⟩
    case neg => exact gStep e24 (gStep e10 (aT (by rw [decide_eq_false hnq]; rfl) (ln6 (not_ok fun q => hnq q.2.2.2.2.2))))
    have ho : okW ⟨7, nd, a, n, d, s, l⟩ = true := ok_of (show (1 : Int) ≤ 7 by decide) (show (7 : Int) ≤ 15 by decide) (show 0 ≤ s by omega) (show ¬ (0 < s ∧ (7 : Int) = 12) by omega) (fun q => absurd (show (7 : Int) = 2 from q) (by decide)) hnq
    refine gStep e24 (gStep e10 (aF (by rw [decide_eq_true hnq]; rfl) ?_))
    have hJ : lineWd ⟨7, nd, a, n, d, s, l⟩ = [wStop, Go.Lib.itoa s, keepW l, kindW 7, Go.Lib.itoa n] := by
      unfold lineWd stopW
      rw [if_pos hs]
      rfl
    refine gStep e25 (aT rfl (gStep (x := [.str (ba (kindW 7))]) rfl (gStep (x := .str (ba (kindW 7))) rfl (gStep (x := ba (kindW 7)) rfl (aT blT (gStep em (aT blT (aT (decide_eq_true hs) (gStep es (aT blT (aT blT (gStep el (aT blT (aT blT (aT blT (fin8 ho ?_))))))))))))))))
    rw [hJ]
    simp only [ba_app]
    exact congrArg ba (by simp only [J_cons, J_one]; simp [wStop])
  · refine aF (decide_eq_false hs) ?_
    by_cases hnq : (⟨7, nd, a, n, d, s, l⟩ : Stw) = namedW ⟨7, nd, a, n, d, s, l⟩
    case neg => exact gStep e24 (gStep e10 (aT (by rw [decide_eq_false hnq]; rfl) (ln6 (not_ok fun q => hnq q.2.2.2.2.2))))
    have ho : okW ⟨7, nd, a, n, d, s, l⟩ = true := ok_of (show (1 : Int) ≤ 7 by decide) (show (7 : Int) ≤ 15 by decide) (show 0 ≤ s by omega) (show ¬ (0 < s ∧ (7 : Int) = 12) by omega) (fun q => absurd (show (7 : Int) = 2 from q) (by decide)) hnq
    refine gStep e24 (gStep e10 (aF (by rw [decide_eq_true hnq]; rfl) ?_))
    have hJ : lineWd ⟨7, nd, a, n, d, s, l⟩ = [kindW 7, Go.Lib.itoa n] := by
      unfold lineWd stopW
      rw [if_neg hs]
      rfl
    refine gStep e25 (aT rfl (gStep (x := [.str (ba (kindW 7))]) rfl (gStep (x := .str (ba (kindW 7))) rfl (gStep (x := ba (kindW 7)) rfl (aT blT (gStep em (aT blT (aF (decide_eq_false hs) (fin8 ho ?_)))))))))
    rw [hJ]
    simp only [ba_app]
    exact congrArg ba (by simp only [J_cons, J_one]; simp [wStop])
theorem ref_8 {nd a n s : Int} {d : List UInt8} {lk : LK} {z : Nat} {l : List Bool} (hn : fit64 nd) (ha : fit64 a) (hm : fit64 n) (hsf : fit64 s) (hl : l.length ≤ 10000) (hz : l ≠ [] → z = 1) : R208 [stv ⟨8, nd, a, n, d, s, l⟩ lk z] [] = some (oLg [] (lnS ⟨8, nd, a, n, d, s, l⟩)) := by
  have key : ∀ o, (q8_8 nd a n (ba d) s lk z (encB l)).ev = o → R208 [stv ⟨8, nd, a, n, d, s, l⟩ lk z] [] = o := fun o h => by
    rw [Tr.ev_run] at h
    exact h
  refine key _ ?_
  rw [q8_8_eq]
  have hM := itoa_le hm
  have em := fnS_eq (out := oS []) oS_inj (p118 hm [])
  have hL := keepW_len l
  have el := fnS_eq (out := oS []) oS_inj (p215 (k := lk) (z := z) (l := l) hz (by omega) [])
  have hS := itoa_le hsf
  have es := fnS_eq (out := oS []) oS_inj (p118 hsf [])
  have hK : (kindW 8).length ≤ 10 := by decide
  have e24 := fnS_eq (out := oSt []) oSt_inj (p224 (x := ⟨8, nd, a, n, d, s, l⟩) (lk := lk) (z := z) ⟨show fit64 8 by unfold fit64; omega, hn, ha, hm, hsf⟩ (show (1 : Int) ≤ 8 by decide) (show (8 : Int) ≤ 15 by decide) (show l.length ≤ 100000 by omega) [])
  obtain ⟨lk', z', hnm, hz'⟩ := nm_stv ⟨8, nd, a, n, d, s, l⟩ lk z hz
  have e10 := fnS_eq (out := oB []) oB_inj (p210 (x := ⟨8, nd, a, n, d, s, l⟩) (y := namedW ⟨8, nd, a, n, d, s, l⟩) (lk := lk) (z := z) (lk' := lk') (z' := z') (show l.length ≤ 100000 by omega) hz hz' [])
  rw [← hnm] at e10
  have e25 := fnS_eq (out := oRw []) oRw_inj (p225 [])
  by_cases h0 : s < 0
  · exact aT (decide_eq_true h0) (ln6 (not_ok (by simp only; omega)))
  refine aF (decide_eq_false h0) ?_
  by_cases hs : 0 < s
  · refine aT (decide_eq_true hs) ?_
    by_cases hnq : (⟨8, nd, a, n, d, s, l⟩ : Stw) = namedW ⟨8, nd, a, n, d, s, l⟩
    case neg => exact gStep e24 (gStep e10 (aT (by rw [decide_eq_false hnq]; rfl) (ln6 (not_ok fun q => hnq q.2.2.2.2.2))))
    have ho : okW ⟨8, nd, a, n, d, s, l⟩ = true := ok_of (show (1 : Int) ≤ 8 by decide) (show (8 : Int) ≤ 15 by decide) (show 0 ≤ s by omega) (show ¬ (0 < s ∧ (8 : Int) = 12) by omega) (fun q => absurd (show (8 : Int) = 2 from q) (by decide)) hnq
    refine gStep e24 (gStep e10 (aF (by rw [decide_eq_true hnq]; rfl) ?_))
    have hJ : lineWd ⟨8, nd, a, n, d, s, l⟩ = [wStop, Go.Lib.itoa s, keepW l, kindW 8, Go.Lib.itoa n] := by
      unfold lineWd stopW
      rw [if_pos hs]
      rfl
    refine gStep e25 (aT rfl (gStep (x := [.str (ba (kindW 8))]) rfl (gStep (x := .str (ba (kindW 8))) rfl (gStep (x := ba (kindW 8)) rfl (aT blT (gStep em (aT blT (aT (decide_eq_true hs) (gStep es (aT blT (aT blT (gStep el (aT blT (aT blT (aT blT (fin8 ho ?_))))))))))))))))
    rw [hJ]
    simp only [ba_app]
    exact congrArg ba (by simp only [J_cons, J_one]; simp [wStop])
  · refine aF (decide_eq_false hs) ?_
    by_cases hnq : (⟨8, nd, a, n, d, s, l⟩ : Stw) = namedW ⟨8, nd, a, n, d, s, l⟩
    case neg => exact gStep e24 (gStep e10 (aT (by rw [decide_eq_false hnq]; rfl) (ln6 (not_ok fun q => hnq q.2.2.2.2.2))))
    have ho : okW ⟨8, nd, a, n, d, s, l⟩ = true := ok_of (show (1 : Int) ≤ 8 by decide) (show (8 : Int) ≤ 15 by decide) (show 0 ≤ s by omega) (show ¬ (0 < s ∧ (8 : Int) = 12) by omega) (fun q => absurd (show (8 : Int) = 2 from q) (by decide)) hnq
    refine gStep e24 (gStep e10 (aF (by rw [decide_eq_true hnq]; rfl) ?_))
    have hJ : lineWd ⟨8, nd, a, n, d, s, l⟩ = [kindW 8, Go.Lib.itoa n] := by
      unfold lineWd stopW
      rw [if_neg hs]
      rfl
    refine gStep e25 (aT rfl (gStep (x := [.str (ba (kindW 8))]) rfl (gStep (x := .str (ba (kindW 8))) rfl (gStep (x := ba (kindW 8)) rfl (aT blT (gStep em (aT blT (aF (decide_eq_false hs) (fin8 ho ?_)))))))))
    rw [hJ]
    simp only [ba_app]
    exact congrArg ba (by simp only [J_cons, J_one]; simp [wStop])
theorem ref_9 {nd a n s : Int} {d : List UInt8} {lk : LK} {z : Nat} {l : List Bool} (hn : fit64 nd) (ha : fit64 a) (hm : fit64 n) (hsf : fit64 s) (hl : l.length ≤ 10000) (hz : l ≠ [] → z = 1) : R208 [stv ⟨9, nd, a, n, d, s, l⟩ lk z] [] = some (oLg [] (lnS ⟨9, nd, a, n, d, s, l⟩)) := by
  have key : ∀ o, (q8_9 nd a n (ba d) s lk z (encB l)).ev = o → R208 [stv ⟨9, nd, a, n, d, s, l⟩ lk z] [] = o := fun o h => by
    rw [Tr.ev_run] at h
    exact h
  refine key _ ?_
  rw [q8_9_eq]
  have hM := itoa_le hm
  have em := fnS_eq (out := oS []) oS_inj (p118 hm [])
  have hL := keepW_len l
  have el := fnS_eq (out := oS []) oS_inj (p215 (k := lk) (z := z) (l := l) hz (by omega) [])
  have hS := itoa_le hsf
  have es := fnS_eq (out := oS []) oS_inj (p118 hsf [])
  have hK : (kindW 9).length ≤ 10 := by decide
  have e24 := fnS_eq (out := oSt []) oSt_inj (p224 (x := ⟨9, nd, a, n, d, s, l⟩) (lk := lk) (z := z) ⟨show fit64 9 by unfold fit64; omega, hn, ha, hm, hsf⟩ (show (1 : Int) ≤ 9 by decide) (show (9 : Int) ≤ 15 by decide) (show l.length ≤ 100000 by omega) [])
  obtain ⟨lk', z', hnm, hz'⟩ := nm_stv ⟨9, nd, a, n, d, s, l⟩ lk z hz
  have e10 := fnS_eq (out := oB []) oB_inj (p210 (x := ⟨9, nd, a, n, d, s, l⟩) (y := namedW ⟨9, nd, a, n, d, s, l⟩) (lk := lk) (z := z) (lk' := lk') (z' := z') (show l.length ≤ 100000 by omega) hz hz' [])
  rw [← hnm] at e10
  have e25 := fnS_eq (out := oRw []) oRw_inj (p225 [])
  by_cases h0 : s < 0
  · exact aT (decide_eq_true h0) (ln6 (not_ok (by simp only; omega)))
  refine aF (decide_eq_false h0) ?_
  by_cases hs : 0 < s
  · refine aT (decide_eq_true hs) ?_
    by_cases hnq : (⟨9, nd, a, n, d, s, l⟩ : Stw) = namedW ⟨9, nd, a, n, d, s, l⟩
    case neg => exact gStep e24 (gStep e10 (aT (by rw [decide_eq_false hnq]; rfl) (ln6 (not_ok fun q => hnq q.2.2.2.2.2))))
    have ho : okW ⟨9, nd, a, n, d, s, l⟩ = true := ok_of (show (1 : Int) ≤ 9 by decide) (show (9 : Int) ≤ 15 by decide) (show 0 ≤ s by omega) (show ¬ (0 < s ∧ (9 : Int) = 12) by omega) (fun q => absurd (show (9 : Int) = 2 from q) (by decide)) hnq
    refine gStep e24 (gStep e10 (aF (by rw [decide_eq_true hnq]; rfl) ?_))
    have hJ : lineWd ⟨9, nd, a, n, d, s, l⟩ = [wStop, Go.Lib.itoa s, keepW l, kindW 9, Go.Lib.itoa n] := by
      unfold lineWd stopW
      rw [if_pos hs]
      rfl
    refine gStep e25 (aT rfl (gStep (x := [.str (ba (kindW 9))]) rfl (gStep (x := .str (ba (kindW 9))) rfl (gStep (x := ba (kindW 9)) rfl (aT blT (gStep em (aT blT (aT (decide_eq_true hs) (gStep es (aT blT (aT blT (gStep el (aT blT (aT blT (aT blT (fin8 ho ?_))))))))))))))))
    rw [hJ]
    simp only [ba_app]
    exact congrArg ba (by simp only [J_cons, J_one]; simp [wStop])
  · refine aF (decide_eq_false hs) ?_
    by_cases hnq : (⟨9, nd, a, n, d, s, l⟩ : Stw) = namedW ⟨9, nd, a, n, d, s, l⟩
    case neg => exact gStep e24 (gStep e10 (aT (by rw [decide_eq_false hnq]; rfl) (ln6 (not_ok fun q => hnq q.2.2.2.2.2))))
    have ho : okW ⟨9, nd, a, n, d, s, l⟩ = true := ok_of (show (1 : Int) ≤ 9 by decide) (show (9 : Int) ≤ 15 by decide) (show 0 ≤ s by omega) (show ¬ (0 < s ∧ (9 : Int) = 12) by omega) (fun q => absurd (show (9 : Int) = 2 from q) (by decide)) hnq
    refine gStep e24 (gStep e10 (aF (by rw [decide_eq_true hnq]; rfl) ?_))
    have hJ : lineWd ⟨9, nd, a, n, d, s, l⟩ = [kindW 9, Go.Lib.itoa n] := by
      unfold lineWd stopW
      rw [if_neg hs]
      rfl
    refine gStep e25 (aT rfl (gStep (x := [.str (ba (kindW 9))]) rfl (gStep (x := .str (ba (kindW 9))) rfl (gStep (x := ba (kindW 9)) rfl (aT blT (gStep em (aT blT (aF (decide_eq_false hs) (fin8 ho ?_)))))))))
    rw [hJ]
    simp only [ba_app]
    exact congrArg ba (by simp only [J_cons, J_one]; simp [wStop])
theorem ref_10 {nd a n s : Int} {d : List UInt8} {lk : LK} {z : Nat} {l : List Bool} (hn : fit64 nd) (ha : fit64 a) (hm : fit64 n) (hsf : fit64 s) (hl : l.length ≤ 10000) (hz : l ≠ [] → z = 1) : R208 [stv ⟨10, nd, a, n, d, s, l⟩ lk z] [] = some (oLg [] (lnS ⟨10, nd, a, n, d, s, l⟩)) := by
  have key : ∀ o, (q8_10 nd a n (ba d) s lk z (encB l)).ev = o → R208 [stv ⟨10, nd, a, n, d, s, l⟩ lk z] [] = o := fun o h => by
    rw [Tr.ev_run] at h
    exact h
  refine key _ ?_
  rw [q8_10_eq]
  have hA := itoa_le ha
  have ea := fnS_eq (out := oS []) oS_inj (p118 ha [])
  have hM := itoa_le hm
  have em := fnS_eq (out := oS []) oS_inj (p118 hm [])
  have hL := keepW_len l
  have el := fnS_eq (out := oS []) oS_inj (p215 (k := lk) (z := z) (l := l) hz (by omega) [])
  have hS := itoa_le hsf
  have es := fnS_eq (out := oS []) oS_inj (p118 hsf [])
  have hK : (kindW 10).length ≤ 10 := by decide
  have e24 := fnS_eq (out := oSt []) oSt_inj (p224 (x := ⟨10, nd, a, n, d, s, l⟩) (lk := lk) (z := z) ⟨show fit64 10 by unfold fit64; omega, hn, ha, hm, hsf⟩ (show (1 : Int) ≤ 10 by decide) (show (10 : Int) ≤ 15 by decide) (show l.length ≤ 100000 by omega) [])
  obtain ⟨lk', z', hnm, hz'⟩ := nm_stv ⟨10, nd, a, n, d, s, l⟩ lk z hz
  have e10 := fnS_eq (out := oB []) oB_inj (p210 (x := ⟨10, nd, a, n, d, s, l⟩) (y := namedW ⟨10, nd, a, n, d, s, l⟩) (lk := lk) (z := z) (lk' := lk') (z' := z') (show l.length ≤ 100000 by omega) hz hz' [])
  rw [← hnm] at e10
  have e25 := fnS_eq (out := oRw []) oRw_inj (p225 [])
  by_cases h0 : s < 0
  · exact aT (decide_eq_true h0) (ln6 (not_ok (by simp only; omega)))
  refine aF (decide_eq_false h0) ?_
  by_cases hs : 0 < s
  · refine aT (decide_eq_true hs) ?_
    by_cases hnq : (⟨10, nd, a, n, d, s, l⟩ : Stw) = namedW ⟨10, nd, a, n, d, s, l⟩
    case neg => exact gStep e24 (gStep e10 (aT (by rw [decide_eq_false hnq]; rfl) (ln6 (not_ok fun q => hnq q.2.2.2.2.2))))
    have ho : okW ⟨10, nd, a, n, d, s, l⟩ = true := ok_of (show (1 : Int) ≤ 10 by decide) (show (10 : Int) ≤ 15 by decide) (show 0 ≤ s by omega) (show ¬ (0 < s ∧ (10 : Int) = 12) by omega) (fun q => absurd (show (10 : Int) = 2 from q) (by decide)) hnq
    refine gStep e24 (gStep e10 (aF (by rw [decide_eq_true hnq]; rfl) ?_))
    have hJ : lineWd ⟨10, nd, a, n, d, s, l⟩ = [wStop, Go.Lib.itoa s, keepW l, kindW 10, Go.Lib.itoa n, Go.Lib.itoa a] := by
      unfold lineWd stopW
      rw [if_pos hs]
      rfl
    refine gStep e25 (aT rfl (gStep (x := [.str (ba (kindW 10))]) rfl (gStep (x := .str (ba (kindW 10))) rfl (gStep (x := ba (kindW 10)) rfl (aT blT (gStep em (aT blT (aT blT (gStep ea (aT blT (aT (decide_eq_true hs) (gStep es (aT blT (aT blT (gStep el (aT blT (aT blT (aT blT (fin8 ho ?_)))))))))))))))))))
    rw [hJ]
    simp only [ba_app]
    exact congrArg ba (by simp only [J_cons, J_one]; simp [wStop])
  · refine aF (decide_eq_false hs) ?_
    by_cases hnq : (⟨10, nd, a, n, d, s, l⟩ : Stw) = namedW ⟨10, nd, a, n, d, s, l⟩
    case neg => exact gStep e24 (gStep e10 (aT (by rw [decide_eq_false hnq]; rfl) (ln6 (not_ok fun q => hnq q.2.2.2.2.2))))
    have ho : okW ⟨10, nd, a, n, d, s, l⟩ = true := ok_of (show (1 : Int) ≤ 10 by decide) (show (10 : Int) ≤ 15 by decide) (show 0 ≤ s by omega) (show ¬ (0 < s ∧ (10 : Int) = 12) by omega) (fun q => absurd (show (10 : Int) = 2 from q) (by decide)) hnq
    refine gStep e24 (gStep e10 (aF (by rw [decide_eq_true hnq]; rfl) ?_))
    have hJ : lineWd ⟨10, nd, a, n, d, s, l⟩ = [kindW 10, Go.Lib.itoa n, Go.Lib.itoa a] := by
      unfold lineWd stopW
      rw [if_neg hs]
      rfl
    refine gStep e25 (aT rfl (gStep (x := [.str (ba (kindW 10))]) rfl (gStep (x := .str (ba (kindW 10))) rfl (gStep (x := ba (kindW 10)) rfl (aT blT (gStep em (aT blT (aT blT (gStep ea (aT blT (aF (decide_eq_false hs) (fin8 ho ?_))))))))))))
    rw [hJ]
    simp only [ba_app]
    exact congrArg ba (by simp only [J_cons, J_one]; simp [wStop])
theorem ref_11 {nd a n s : Int} {d : List UInt8} {lk : LK} {z : Nat} {l : List Bool} (hn : fit64 nd) (ha : fit64 a) (hm : fit64 n) (hsf : fit64 s) (hl : l.length ≤ 10000) (hz : l ≠ [] → z = 1) : R208 [stv ⟨11, nd, a, n, d, s, l⟩ lk z] [] = some (oLg [] (lnS ⟨11, nd, a, n, d, s, l⟩)) := by
  have key : ∀ o, (q8_11 nd a n (ba d) s lk z (encB l)).ev = o → R208 [stv ⟨11, nd, a, n, d, s, l⟩ lk z] [] = o := fun o h => by
    rw [Tr.ev_run] at h
    exact h
  refine key _ ?_
  rw [q8_11_eq]
  have hL := keepW_len l
  have el := fnS_eq (out := oS []) oS_inj (p215 (k := lk) (z := z) (l := l) hz (by omega) [])
  have hS := itoa_le hsf
  have es := fnS_eq (out := oS []) oS_inj (p118 hsf [])
  have hK : (kindW 11).length ≤ 10 := by decide
  have e24 := fnS_eq (out := oSt []) oSt_inj (p224 (x := ⟨11, nd, a, n, d, s, l⟩) (lk := lk) (z := z) ⟨show fit64 11 by unfold fit64; omega, hn, ha, hm, hsf⟩ (show (1 : Int) ≤ 11 by decide) (show (11 : Int) ≤ 15 by decide) (show l.length ≤ 100000 by omega) [])
  obtain ⟨lk', z', hnm, hz'⟩ := nm_stv ⟨11, nd, a, n, d, s, l⟩ lk z hz
  have e10 := fnS_eq (out := oB []) oB_inj (p210 (x := ⟨11, nd, a, n, d, s, l⟩) (y := namedW ⟨11, nd, a, n, d, s, l⟩) (lk := lk) (z := z) (lk' := lk') (z' := z') (show l.length ≤ 100000 by omega) hz hz' [])
  rw [← hnm] at e10
  have e25 := fnS_eq (out := oRw []) oRw_inj (p225 [])
  by_cases h0 : s < 0
  · exact aT (decide_eq_true h0) (ln6 (not_ok (by simp only; omega)))
  refine aF (decide_eq_false h0) ?_
  by_cases hs : 0 < s
  · refine aT (decide_eq_true hs) ?_
    by_cases hnq : (⟨11, nd, a, n, d, s, l⟩ : Stw) = namedW ⟨11, nd, a, n, d, s, l⟩
    case neg => exact gStep e24 (gStep e10 (aT (by rw [decide_eq_false hnq]; rfl) (ln6 (not_ok fun q => hnq q.2.2.2.2.2))))
    have ho : okW ⟨11, nd, a, n, d, s, l⟩ = true := ok_of (show (1 : Int) ≤ 11 by decide) (show (11 : Int) ≤ 15 by decide) (show 0 ≤ s by omega) (show ¬ (0 < s ∧ (11 : Int) = 12) by omega) (fun q => absurd (show (11 : Int) = 2 from q) (by decide)) hnq
    refine gStep e24 (gStep e10 (aF (by rw [decide_eq_true hnq]; rfl) ?_))
    have hJ : lineWd ⟨11, nd, a, n, d, s, l⟩ = [wStop, Go.Lib.itoa s, keepW l, kindW 11] := by
      unfold lineWd stopW
      rw [if_pos hs]
      rfl
    refine gStep e25 (aT rfl (gStep (x := [.str (ba (kindW 11))]) rfl (gStep (x := .str (ba (kindW 11))) rfl (aT (decide_eq_true hs) (gStep es (aT blT (aT blT (gStep el (aT blT (aT blT (gStep (x := ba (kindW 11)) rfl (aT blT (fin8 ho ?_)))))))))))))
    rw [hJ]
    simp only [ba_app]
    exact congrArg ba (by simp only [J_cons, J_one]; simp [wStop])
  · refine aF (decide_eq_false hs) ?_
    by_cases hnq : (⟨11, nd, a, n, d, s, l⟩ : Stw) = namedW ⟨11, nd, a, n, d, s, l⟩
    case neg => exact gStep e24 (gStep e10 (aT (by rw [decide_eq_false hnq]; rfl) (ln6 (not_ok fun q => hnq q.2.2.2.2.2))))
    have ho : okW ⟨11, nd, a, n, d, s, l⟩ = true := ok_of (show (1 : Int) ≤ 11 by decide) (show (11 : Int) ≤ 15 by decide) (show 0 ≤ s by omega) (show ¬ (0 < s ∧ (11 : Int) = 12) by omega) (fun q => absurd (show (11 : Int) = 2 from q) (by decide)) hnq
    refine gStep e24 (gStep e10 (aF (by rw [decide_eq_true hnq]; rfl) ?_))
    have hJ : lineWd ⟨11, nd, a, n, d, s, l⟩ = [kindW 11] := by
      unfold lineWd stopW
      rw [if_neg hs]
      rfl
    refine gStep e25 (aT rfl (gStep (x := [.str (ba (kindW 11))]) rfl (gStep (x := .str (ba (kindW 11))) rfl (aF (decide_eq_false hs) (gStep (x := ba (kindW 11)) rfl (fin8 ho ?_))))))
    rw [hJ]
    exact congrArg ba (J_one _).symm
theorem ref_12 {nd a n s : Int} {d : List UInt8} {lk : LK} {z : Nat} {l : List Bool} (hn : fit64 nd) (ha : fit64 a) (hm : fit64 n) (hsf : fit64 s) (hl : l.length ≤ 10000) (hz : l ≠ [] → z = 1) : R208 [stv ⟨12, nd, a, n, d, s, l⟩ lk z] [] = some (oLg [] (lnS ⟨12, nd, a, n, d, s, l⟩)) := by
  have key : ∀ o, (q8_12 nd a n (ba d) s lk z (encB l)).ev = o → R208 [stv ⟨12, nd, a, n, d, s, l⟩ lk z] [] = o := fun o h => by
    rw [Tr.ev_run] at h
    exact h
  refine key _ ?_
  rw [q8_12_eq]
  have hN := itoa_le hn
  have en := fnS_eq (out := oS []) oS_inj (p118 hn [])
  have hL := keepW_len l
  have el := fnS_eq (out := oS []) oS_inj (p215 (k := lk) (z := z) (l := l) hz (by omega) [])
  have hK : (kindW 12).length ≤ 10 := by decide
  have e24 := fnS_eq (out := oSt []) oSt_inj (p224 (x := ⟨12, nd, a, n, d, s, l⟩) (lk := lk) (z := z) ⟨show fit64 12 by unfold fit64; omega, hn, ha, hm, hsf⟩ (show (1 : Int) ≤ 12 by decide) (show (12 : Int) ≤ 15 by decide) (show l.length ≤ 100000 by omega) [])
  obtain ⟨lk', z', hnm, hz'⟩ := nm_stv ⟨12, nd, a, n, d, s, l⟩ lk z hz
  have e10 := fnS_eq (out := oB []) oB_inj (p210 (x := ⟨12, nd, a, n, d, s, l⟩) (y := namedW ⟨12, nd, a, n, d, s, l⟩) (lk := lk) (z := z) (lk' := lk') (z' := z') (show l.length ≤ 100000 by omega) hz hz' [])
  rw [← hnm] at e10
  have e25 := fnS_eq (out := oRw []) oRw_inj (p225 [])
  by_cases h0 : s < 0
  · exact aT (decide_eq_true h0) (ln6 (not_ok (by simp only; omega)))
  refine aF (decide_eq_false h0) ?_
  by_cases hs : 0 < s
  · exact aT (decide_eq_true hs) (ln6 (not_ok fun q => q.2.2.2.1 ⟨hs, rfl⟩))
  · refine aF (decide_eq_false hs) ?_
    by_cases hnq : (⟨12, nd, a, n, d, s, l⟩ : Stw) = namedW ⟨12, nd, a, n, d, s, l⟩
    case neg => exact gStep e24 (gStep e10 (aT (by rw [decide_eq_false hnq]; rfl) (ln6 (not_ok fun q => hnq q.2.2.2.2.2))))
    have ho : okW ⟨12, nd, a, n, d, s, l⟩ = true := ok_of (show (1 : Int) ≤ 12 by decide) (show (12 : Int) ≤ 15 by decide) (show 0 ≤ s by omega) (show ¬ (0 < s ∧ (12 : Int) = 12) by omega) (fun q => absurd (show (12 : Int) = 2 from q) (by decide)) hnq
    refine gStep e24 (gStep e10 (aF (by rw [decide_eq_true hnq]; rfl) ?_))
    have hJ : lineWd ⟨12, nd, a, n, d, s, l⟩ = [kindW 12, Go.Lib.itoa nd, keepW l] := by
      unfold lineWd stopW
      rw [if_neg hs]
      rfl
    refine gStep e25 (aT rfl (gStep (x := [.str (ba (kindW 12))]) rfl (gStep (x := .str (ba (kindW 12))) rfl (gStep (x := ba (kindW 12)) rfl (aT blT (gStep en (aT blT (aT blT (gStep el (aT blT (aF (decide_eq_false hs) (fin8 ho ?_))))))))))))
    rw [hJ]
    simp only [ba_app]
    exact congrArg ba (by simp only [J_cons, J_one]; simp [wStop])
theorem ref_13 {nd a n s : Int} {d : List UInt8} {lk : LK} {z : Nat} {l : List Bool} (hn : fit64 nd) (ha : fit64 a) (hm : fit64 n) (hsf : fit64 s) (hl : l.length ≤ 10000) (hz : l ≠ [] → z = 1) : R208 [stv ⟨13, nd, a, n, d, s, l⟩ lk z] [] = some (oLg [] (lnS ⟨13, nd, a, n, d, s, l⟩)) := by
  have key : ∀ o, (q8_13 nd a n (ba d) s lk z (encB l)).ev = o → R208 [stv ⟨13, nd, a, n, d, s, l⟩ lk z] [] = o := fun o h => by
    rw [Tr.ev_run] at h
    exact h
  refine key _ ?_
  rw [q8_13_eq]
  have hN := itoa_le hn
  have en := fnS_eq (out := oS []) oS_inj (p118 hn [])
  have hL := keepW_len l
  have el := fnS_eq (out := oS []) oS_inj (p215 (k := lk) (z := z) (l := l) hz (by omega) [])
  have hS := itoa_le hsf
  have es := fnS_eq (out := oS []) oS_inj (p118 hsf [])
  have hK : (kindW 13).length ≤ 10 := by decide
  have e24 := fnS_eq (out := oSt []) oSt_inj (p224 (x := ⟨13, nd, a, n, d, s, l⟩) (lk := lk) (z := z) ⟨show fit64 13 by unfold fit64; omega, hn, ha, hm, hsf⟩ (show (1 : Int) ≤ 13 by decide) (show (13 : Int) ≤ 15 by decide) (show l.length ≤ 100000 by omega) [])
  obtain ⟨lk', z', hnm, hz'⟩ := nm_stv ⟨13, nd, a, n, d, s, l⟩ lk z hz
  have e10 := fnS_eq (out := oB []) oB_inj (p210 (x := ⟨13, nd, a, n, d, s, l⟩) (y := namedW ⟨13, nd, a, n, d, s, l⟩) (lk := lk) (z := z) (lk' := lk') (z' := z') (show l.length ≤ 100000 by omega) hz hz' [])
  rw [← hnm] at e10
  have e25 := fnS_eq (out := oRw []) oRw_inj (p225 [])
  by_cases h0 : s < 0
  · exact aT (decide_eq_true h0) (ln6 (not_ok (by simp only; omega)))
  refine aF (decide_eq_false h0) ?_
  by_cases hs : 0 < s
  · refine aT (decide_eq_true hs) ?_
    by_cases hnq : (⟨13, nd, a, n, d, s, l⟩ : Stw) = namedW ⟨13, nd, a, n, d, s, l⟩
    case neg => exact gStep e24 (gStep e10 (aT (by rw [decide_eq_false hnq]; rfl) (ln6 (not_ok fun q => hnq q.2.2.2.2.2))))
    have ho : okW ⟨13, nd, a, n, d, s, l⟩ = true := ok_of (show (1 : Int) ≤ 13 by decide) (show (13 : Int) ≤ 15 by decide) (show 0 ≤ s by omega) (show ¬ (0 < s ∧ (13 : Int) = 12) by omega) (fun q => absurd (show (13 : Int) = 2 from q) (by decide)) hnq
    refine gStep e24 (gStep e10 (aF (by rw [decide_eq_true hnq]; rfl) ?_))
    have hJ : lineWd ⟨13, nd, a, n, d, s, l⟩ = [wStop, Go.Lib.itoa s, keepW l, kindW 13, Go.Lib.itoa nd] := by
      unfold lineWd stopW
      rw [if_pos hs]
      rfl
    refine gStep e25 (aT rfl (gStep (x := [.str (ba (kindW 13))]) rfl (gStep (x := .str (ba (kindW 13))) rfl (gStep (x := ba (kindW 13)) rfl (aT blT (gStep en (aT blT (aT (decide_eq_true hs) (gStep es (aT blT (aT blT (gStep el (aT blT (aT blT (aT blT (fin8 ho ?_))))))))))))))))
    rw [hJ]
    simp only [ba_app]
    exact congrArg ba (by simp only [J_cons, J_one]; simp [wStop])
  · refine aF (decide_eq_false hs) ?_
    by_cases hnq : (⟨13, nd, a, n, d, s, l⟩ : Stw) = namedW ⟨13, nd, a, n, d, s, l⟩
    case neg => exact gStep e24 (gStep e10 (aT (by rw [decide_eq_false hnq]; rfl) (ln6 (not_ok fun q => hnq q.2.2.2.2.2))))
    have ho : okW ⟨13, nd, a, n, d, s, l⟩ = true := ok_of (show (1 : Int) ≤ 13 by decide) (show (13 : Int) ≤ 15 by decide) (show 0 ≤ s by omega) (show ¬ (0 < s ∧ (13 : Int) = 12) by omega) (fun q => absurd (show (13 : Int) = 2 from q) (by decide)) hnq
    refine gStep e24 (gStep e10 (aF (by rw [decide_eq_true hnq]; rfl) ?_))
    have hJ : lineWd ⟨13, nd, a, n, d, s, l⟩ = [kindW 13, Go.Lib.itoa nd] := by
      unfold lineWd stopW
      rw [if_neg hs]
      rfl
    refine gStep e25 (aT rfl (gStep (x := [.str (ba (kindW 13))]) rfl (gStep (x := .str (ba (kindW 13))) rfl (gStep (x := ba (kindW 13)) rfl (aT blT (gStep en (aT blT (aF (decide_eq_false hs) (fin8 ho ?_)))))))))
    rw [hJ]
    simp only [ba_app]
    exact congrArg ba (by simp only [J_cons, J_one]; simp [wStop])
theorem ref_14 {nd a n s : Int} {d : List UInt8} {lk : LK} {z : Nat} {l : List Bool} (hn : fit64 nd) (ha : fit64 a) (hm : fit64 n) (hsf : fit64 s) (hl : l.length ≤ 10000) (hz : l ≠ [] → z = 1) : R208 [stv ⟨14, nd, a, n, d, s, l⟩ lk z] [] = some (oLg [] (lnS ⟨14, nd, a, n, d, s, l⟩)) := by
  have key : ∀ o, (q8_14 nd a n (ba d) s lk z (encB l)).ev = o → R208 [stv ⟨14, nd, a, n, d, s, l⟩ lk z] [] = o := fun o h => by
    rw [Tr.ev_run] at h
    exact h
  refine key _ ?_
  rw [q8_14_eq]
  have hA := itoa_le ha
  have ea := fnS_eq (out := oS []) oS_inj (p118 ha [])
  have hL := keepW_len l
  have el := fnS_eq (out := oS []) oS_inj (p215 (k := lk) (z := z) (l := l) hz (by omega) [])
  have hS := itoa_le hsf
  have es := fnS_eq (out := oS []) oS_inj (p118 hsf [])
  have hK : (kindW 14).length ≤ 10 := by decide
  have e24 := fnS_eq (out := oSt []) oSt_inj (p224 (x := ⟨14, nd, a, n, d, s, l⟩) (lk := lk) (z := z) ⟨show fit64 14 by unfold fit64; omega, hn, ha, hm, hsf⟩ (show (1 : Int) ≤ 14 by decide) (show (14 : Int) ≤ 15 by decide) (show l.length ≤ 100000 by omega) [])
  obtain ⟨lk', z', hnm, hz'⟩ := nm_stv ⟨14, nd, a, n, d, s, l⟩ lk z hz
  have e10 := fnS_eq (out := oB []) oB_inj (p210 (x := ⟨14, nd, a, n, d, s, l⟩) (y := namedW ⟨14, nd, a, n, d, s, l⟩) (lk := lk) (z := z) (lk' := lk') (z' := z') (show l.length ≤ 100000 by omega) hz hz' [])
  rw [← hnm] at e10
  have e25 := fnS_eq (out := oRw []) oRw_inj (p225 [])
  by_cases h0 : s < 0
  · exact aT (decide_eq_true h0) (ln6 (not_ok (by simp only; omega)))
  refine aF (decide_eq_false h0) ?_
  by_cases hs : 0 < s
  · refine aT (decide_eq_true hs) ?_
    by_cases hnq : (⟨14, nd, a, n, d, s, l⟩ : Stw) = namedW ⟨14, nd, a, n, d, s, l⟩
    case neg => exact gStep e24 (gStep e10 (aT (by rw [decide_eq_false hnq]; rfl) (ln6 (not_ok fun q => hnq q.2.2.2.2.2))))
    have ho : okW ⟨14, nd, a, n, d, s, l⟩ = true := ok_of (show (1 : Int) ≤ 14 by decide) (show (14 : Int) ≤ 15 by decide) (show 0 ≤ s by omega) (show ¬ (0 < s ∧ (14 : Int) = 12) by omega) (fun q => absurd (show (14 : Int) = 2 from q) (by decide)) hnq
    refine gStep e24 (gStep e10 (aF (by rw [decide_eq_true hnq]; rfl) ?_))
    have hJ : lineWd ⟨14, nd, a, n, d, s, l⟩ = [wStop, Go.Lib.itoa s, keepW l, kindW 14, Go.Lib.itoa a] := by
      unfold lineWd stopW
      rw [if_pos hs]
      rfl
    refine gStep e25 (aT rfl (gStep (x := [.str (ba (kindW 14))]) rfl (gStep (x := .str (ba (kindW 14))) rfl (gStep (x := ba (kindW 14)) rfl (aT blT (gStep ea (aT blT (aT (decide_eq_true hs) (gStep es (aT blT (aT blT (gStep el (aT blT (aT blT (aT blT (fin8 ho ?_))))))))))))))))
    rw [hJ]
    simp only [ba_app]
    exact congrArg ba (by simp only [J_cons, J_one]; simp [wStop])
  · refine aF (decide_eq_false hs) ?_
    by_cases hnq : (⟨14, nd, a, n, d, s, l⟩ : Stw) = namedW ⟨14, nd, a, n, d, s, l⟩
    case neg => exact gStep e24 (gStep e10 (aT (by rw [decide_eq_false hnq]; rfl) (ln6 (not_ok fun q => hnq q.2.2.2.2.2))))
    have ho : okW ⟨14, nd, a, n, d, s, l⟩ = true := ok_of (show (1 : Int) ≤ 14 by decide) (show (14 : Int) ≤ 15 by decide) (show 0 ≤ s by omega) (show ¬ (0 < s ∧ (14 : Int) = 12) by omega) (fun q => absurd (show (14 : Int) = 2 from q) (by decide)) hnq
    refine gStep e24 (gStep e10 (aF (by rw [decide_eq_true hnq]; rfl) ?_))
    have hJ : lineWd ⟨14, nd, a, n, d, s, l⟩ = [kindW 14, Go.Lib.itoa a] := by
      unfold lineWd stopW
      rw [if_neg hs]
      rfl
    refine gStep e25 (aT rfl (gStep (x := [.str (ba (kindW 14))]) rfl (gStep (x := .str (ba (kindW 14))) rfl (gStep (x := ba (kindW 14)) rfl (aT blT (gStep ea (aT blT (aF (decide_eq_false hs) (fin8 ho ?_)))))))))
    rw [hJ]
    simp only [ba_app]
    exact congrArg ba (by simp only [J_cons, J_one]; simp [wStop])
theorem ref_15 {nd a n s : Int} {d : List UInt8} {lk : LK} {z : Nat} {l : List Bool} (hn : fit64 nd) (ha : fit64 a) (hm : fit64 n) (hsf : fit64 s) (hl : l.length ≤ 10000) (hz : l ≠ [] → z = 1) : R208 [stv ⟨15, nd, a, n, d, s, l⟩ lk z] [] = some (oLg [] (lnS ⟨15, nd, a, n, d, s, l⟩)) := by
  have key : ∀ o, (q8_15 nd a n (ba d) s lk z (encB l)).ev = o → R208 [stv ⟨15, nd, a, n, d, s, l⟩ lk z] [] = o := fun o h => by
    rw [Tr.ev_run] at h
    exact h
  refine key _ ?_
  rw [q8_15_eq]
  have hN := itoa_le hn
  have en := fnS_eq (out := oS []) oS_inj (p118 hn [])
  have hL := keepW_len l
  have el := fnS_eq (out := oS []) oS_inj (p215 (k := lk) (z := z) (l := l) hz (by omega) [])
  have hS := itoa_le hsf
  have es := fnS_eq (out := oS []) oS_inj (p118 hsf [])
  have hK : (kindW 15).length ≤ 10 := by decide
  have e24 := fnS_eq (out := oSt []) oSt_inj (p224 (x := ⟨15, nd, a, n, d, s, l⟩) (lk := lk) (z := z) ⟨show fit64 15 by unfold fit64; omega, hn, ha, hm, hsf⟩ (show (1 : Int) ≤ 15 by decide) (show (15 : Int) ≤ 15 by decide) (show l.length ≤ 100000 by omega) [])
  obtain ⟨lk', z', hnm, hz'⟩ := nm_stv ⟨15, nd, a, n, d, s, l⟩ lk z hz
  have e10 := fnS_eq (out := oB []) oB_inj (p210 (x := ⟨15, nd, a, n, d, s, l⟩) (y := namedW ⟨15, nd, a, n, d, s, l⟩) (lk := lk) (z := z) (lk' := lk') (z' := z') (show l.length ≤ 100000 by omega) hz hz' [])
  rw [← hnm] at e10
  have e25 := fnS_eq (out := oRw []) oRw_inj (p225 [])
  by_cases h0 : s < 0
  · exact aT (decide_eq_true h0) (ln6 (not_ok (by simp only; omega)))
  refine aF (decide_eq_false h0) ?_
  by_cases hs : 0 < s
  · refine aT (decide_eq_true hs) ?_
    by_cases hnq : (⟨15, nd, a, n, d, s, l⟩ : Stw) = namedW ⟨15, nd, a, n, d, s, l⟩
    case neg => exact gStep e24 (gStep e10 (aT (by rw [decide_eq_false hnq]; rfl) (ln6 (not_ok fun q => hnq q.2.2.2.2.2))))
    have ho : okW ⟨15, nd, a, n, d, s, l⟩ = true := ok_of (show (1 : Int) ≤ 15 by decide) (show (15 : Int) ≤ 15 by decide) (show 0 ≤ s by omega) (show ¬ (0 < s ∧ (15 : Int) = 12) by omega) (fun q => absurd (show (15 : Int) = 2 from q) (by decide)) hnq
    refine gStep e24 (gStep e10 (aF (by rw [decide_eq_true hnq]; rfl) ?_))
    have hJ : lineWd ⟨15, nd, a, n, d, s, l⟩ = [wStop, Go.Lib.itoa s, keepW l, kindW 15, Go.Lib.itoa nd] := by
      unfold lineWd stopW
      rw [if_pos hs]
      rfl
    refine gStep e25 (aT rfl (gStep (x := [.str (ba (kindW 15))]) rfl (gStep (x := .str (ba (kindW 15))) rfl (gStep (x := ba (kindW 15)) rfl (aT blT (gStep en (aT blT (aT (decide_eq_true hs) (gStep es (aT blT (aT blT (gStep el (aT blT (aT blT (aT blT (fin8 ho ?_))))))))))))))))
    rw [hJ]
    simp only [ba_app]
    exact congrArg ba (by simp only [J_cons, J_one]; simp [wStop])
  · refine aF (decide_eq_false hs) ?_
    by_cases hnq : (⟨15, nd, a, n, d, s, l⟩ : Stw) = namedW ⟨15, nd, a, n, d, s, l⟩
    case neg => exact gStep e24 (gStep e10 (aT (by rw [decide_eq_false hnq]; rfl) (ln6 (not_ok fun q => hnq q.2.2.2.2.2))))
    have ho : okW ⟨15, nd, a, n, d, s, l⟩ = true := ok_of (show (1 : Int) ≤ 15 by decide) (show (15 : Int) ≤ 15 by decide) (show 0 ≤ s by omega) (show ¬ (0 < s ∧ (15 : Int) = 12) by omega) (fun q => absurd (show (15 : Int) = 2 from q) (by decide)) hnq
    refine gStep e24 (gStep e10 (aF (by rw [decide_eq_true hnq]; rfl) ?_))
    have hJ : lineWd ⟨15, nd, a, n, d, s, l⟩ = [kindW 15, Go.Lib.itoa nd] := by
      unfold lineWd stopW
      rw [if_neg hs]
      rfl
    refine gStep e25 (aT rfl (gStep (x := [.str (ba (kindW 15))]) rfl (gStep (x := .str (ba (kindW 15))) rfl (gStep (x := ba (kindW 15)) rfl (aT blT (gStep en (aT blT (aF (decide_eq_false hs) (fin8 ho ?_)))))))))
    rw [hJ]
    simp only [ba_app]
    exact congrArg ba (by simp only [J_cons, J_one]; simp [wStop])
end Go.Eng
end
