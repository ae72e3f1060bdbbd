/- Answers as lines: both Line are lineP. -/
import Derived.Test.YtnkiegafaiebiaaDoorSp31
section
namespace Go.Eng
open Go
set_option maxRecDepth 100000
set_option linter.unusedSimpArgs false

theorem rk6_eq (k : LK) (z : Nat) (l r : Row) (i : Int) : (rk6 k z l r i).ev =
 (rAsk (decide (i < (((List.length l) : Nat) : Int)))
 (rAsk ((decide (z = 1)) && ((decide ((0 : Int) ≤ i)) && (decide (i < (((List.length l) : Nat) : Int)))))
 (rGet l[(Int.toNat i)]? fun x1 =>
 (rGet (List.head? (List.drop 0 x1)) fun x2 =>
 (rGet (fnS (fun (zs : ByteArray) => ((AV.dat (D.str zs)), [])) (S13 [(AV.dat x2)] [])) fun x3 =>
 (rAsk ((decide ((0 + (List.length r)) ≤ (List.length r))) && (fits (TI.mk TK.str 1 16 [(AV.dat (D.str (ByteArray.mk (List.toArray []))))] true) ((List.length r) + 1)))
 (rAsk (true && (decide ((List.length r) = (List.length r))))
 (some (Ex.norm, (St.mk (mkT 0 85 [(4, (AV.sh false 0 1 0 ((List.length r) + 1))), (71, (AV.dat (D.list k z l))), (72, (AV.dat (D.int IntKind.i64 (((List.length l) : Nat) : Int)))), (73, (AV.dat (D.int IntKind.i64 (IntKind.wrap IntKind.i64 (i + (1 : Int))))))]) (Mem.mk [(Option.some (Ent.row Mode.excl 1 (r ++ [[(D.str x3)]])))] [] 0))))
 none
 )
 none
 )
 )
 )
 )
 none
 )
 (some ((Ex.exit 0), (St.mk (mkT 0 85 [(4, (AV.sh false 0 1 0 (List.length r)))]) (Mem.mk [(Option.some (Ent.row Mode.excl 1 r))] [] 0))))
 )
  := by kernel_rfl
theorem f6t_eq (why n m : Int) (d : ByteArray) (k : LK) (z : Nat) (l : Row) : (f6t why n m d k z l).ev =
 (rAsk (decide (why < (0 : Int)))
 (some ((AV.tup [(AV.dat (D.str (ByteArray.mk (List.toArray [])))), (AV.dat (D.int IntKind.i64 (6 : Int)))]), []))
 (rAsk (decide (why > (22 : Int)))
 (some ((AV.tup [(AV.dat (D.str (ByteArray.mk (List.toArray [])))), (AV.dat (D.int IntKind.i64 (6 : Int)))]), []))
 (rAsk (!((ByteArray.toList d) == []))
 (rGet (fnS (fun (b : Bool) => ((AV.dat (D.bool b)), [])) (P12 [(AV.dat (D.str d))] [])) fun x1 =>
 (rAsk (!x1)
 (some ((AV.tup [(AV.dat (D.str (ByteArray.mk (List.toArray [])))), (AV.dat (D.int IntKind.i64 (6 : Int)))]), []))
 (rAsk (decide ((((List.length l) : Nat) : Int) > (60 : Int)))
 (some ((AV.tup [(AV.dat (D.str (ByteArray.mk (List.toArray [])))), (AV.dat (D.int IntKind.i64 (6 : Int)))]), []))
 (rGet (fnS (fun (zs : ByteArray) => ((AV.dat (D.str zs)), [])) (S13 [(AV.dat (D.int IntKind.i64 why))] [])) fun x2 =>
 (rAsk (n != (0 : Int))
 (rGet (fnS (fun (zs : ByteArray) => ((AV.dat (D.str zs)), [])) (S14 [(AV.dat (D.int IntKind.i64 n)), (AV.dat (D.int IntKind.i64 (10 : Int)))] [])) fun x3 =>
 (rAsk (m != (0 : Int))
 (rGet (fnS (fun (zs : ByteArray) => ((AV.dat (D.str zs)), [])) (S14 [(AV.dat (D.int IntKind.i64 m)), (AV.dat (D.int IntKind.i64 (10 : Int)))] [])) fun x4 =>
 (rAsk (!((ByteArray.toList d) == []))
 (rGet (fnS (fun (zs : ByteArray) => ((AV.dat (D.str zs)), [])) (P7 [(AV.dat (D.str d))] [])) fun x5 =>
 (rAsk (decide ((((List.length l) : Nat) : Int) > (0 : Int)))
 (rAsk (Option.isSome (loS TT (TOrc.runs t106) (HSc 6) lp6 out6 (St.mk (mkT 0 85 [(4, (AV.sh false 0 1 0 9)), (71, (AV.dat (D.list k z l))), (72, (AV.dat (D.int IntKind.i64 (((List.length l) : Nat) : Int)))), (73, (AV.dat (D.int IntKind.i64 (0 : Int))))]) (Mem.mk [(Option.some (Ent.row Mode.excl 1 [[(D.str (ByteArray.mk (List.toArray [119, 104, 121])))], [(D.str x2)], [(D.str (ByteArray.mk (List.toArray [110])))], [(D.str x3)], [(D.str (ByteArray.mk (List.toArray [109])))], [(D.str x4)], [(D.str (ByteArray.mk (List.toArray [100, 97, 116, 97])))], [(D.str x5)], [(D.str (ByteArray.mk (List.toArray [108, 105, 115, 116])))]]))] [] 0))))
 (rGet (loS TT (TOrc.runs t106) (HSc 6) lp6 out6 (St.mk (mkT 0 85 [(4, (AV.sh false 0 1 0 9)), (71, (AV.dat (D.list k z l))), (72, (AV.dat (D.int IntKind.i64 (((List.length l) : Nat) : Int)))), (73, (AV.dat (D.int IntKind.i64 (0 : Int))))]) (Mem.mk [(Option.some (Ent.row Mode.excl 1 [[(D.str (ByteArray.mk (List.toArray [119, 104, 121])))], [(D.str x2)], [(D.str (ByteArray.mk (List.toArray [110])))], [(D.str x3)], [(D.str (ByteArray.mk (List.toArray [109])))], [(D.str x4)], [(D.str (ByteArray.mk (List.toArray [100, 97, 116, 97])))], [(D.str x5)], [(D.str (ByteArray.mk (List.toArray [108, 105, 115, 116])))]]))] [] 0))) fun x6 =>
 (rGet (fnS (fun (zs : ByteArray) => ((AV.dat (D.str zs)), [])) (S16n [(AV.dat (D.list LK.any 1 (List.take (List.length x6) (List.drop 0 x6)))), (AV.dat (D.str (ByteArray.mk (List.toArray [32]))))] [])) fun x7 =>
 (some ((AV.tup [(AV.dat (D.str x7)), (AV.dat (D.int IntKind.i64 (0 : Int)))]), []))
 )
 )
 (rGet (loS TT (TOrc.runs t106) (HSc 6) lp6 out6t (St.mk (mkT 0 85 [(4, (AV.sh false 0 1 0 9)), (71, (AV.dat (D.list k z l))), (72, (AV.dat (D.int IntKind.i64 (((List.length l) : Nat) : Int)))), (73, (AV.dat (D.int IntKind.i64 (0 : Int))))]) (Mem.mk [(Option.some (Ent.row Mode.excl 1 [[(D.str (ByteArray.mk (List.toArray [119, 104, 121])))], [(D.str x2)], [(D.str (ByteArray.mk (List.toArray [110])))], [(D.str x3)], [(D.str (ByteArray.mk (List.toArray [109])))], [(D.str x4)], [(D.str (ByteArray.mk (List.toArray [100, 97, 116, 97])))], [(D.str x5)], [(D.str (ByteArray.mk (List.toArray [108, 105, 115, 116])))]]))] [] 0))) fun x8 =>
 (rGet (fnS (fun (zs : ByteArray) => ((AV.dat (D.str zs)), [])) (S16n [(AV.dat (D.list LK.full 1 (List.take (List.length x8) (List.drop 0 x8)))), (AV.dat (D.str (ByteArray.mk (List.toArray [32]))))] [])) fun x9 =>
 (some ((AV.tup [(AV.dat (D.str x9)), (AV.dat (D.int IntKind.i64 (0 : Int)))]), []))
 )
 )
 )
 (rAsk (Option.isSome (loS TT (TOrc.runs t106) (HSc 6) lp6 out6 (St.mk (mkT 0 85 [(4, (AV.sh false 0 1 0 8)), (71, (AV.dat (D.list k z l))), (72, (AV.dat (D.int IntKind.i64 (((List.length l) : Nat) : Int)))), (73, (AV.dat (D.int IntKind.i64 (0 : Int))))]) (Mem.mk [(Option.some (Ent.row Mode.excl 1 [[(D.str (ByteArray.mk (List.toArray [119, 104, 121])))], [(D.str x2)], [(D.str (ByteArray.mk (List.toArray [110])))], [(D.str x3)], [(D.str (ByteArray.mk (List.toArray [109])))], [(D.str x4)], [(D.str (ByteArray.mk (List.toArray [100, 97, 116, 97])))], [(D.str x5)]]))] [] 0))))
 (rGet (loS TT (TOrc.runs t106) (HSc 6) lp6 out6 (St.mk (mkT 0 85 [(4, (AV.sh false 0 1 0 8)), (71, (AV.dat (D.list k z l))), (72, (AV.dat (D.int IntKind.i64 (((List.length l) : Nat) : Int)))), (73, (AV.dat (D.int IntKind.i64 (0 : Int))))]) (Mem.mk [(Option.some (Ent.row Mode.excl 1 [[(D.str (ByteArray.mk (List.toArray [119, 104, 121])))], [(D.str x2)], [(D.str (ByteArray.mk (List.toArray [110])))], [(D.str x3)], [(D.str (ByteArray.mk (List.toArray [109])))], [(D.str x4)], [(D.str (ByteArray.mk (List.toArray [100, 97, 116, 97])))], [(D.str x5)]]))] [] 0))) fun x10 =>
 (rGet (fnS (fun (zs : ByteArray) => ((AV.dat (D.str zs)), [])) (S16n [(AV.dat (D.list LK.any 1 (List.take (List.length x10) (List.drop 0 x10)))), (AV.dat (D.str (ByteArray.mk (List.toArray [32]))))] [])) fun x11 =>
 (some ((AV.tup [(AV.dat (D.str x11)), (AV.dat (D.int IntKind.i64 (0 : Int)))]), []))
 )
 )
 (rGet (loS TT (TOrc.runs t106) (HSc 6) lp6 out6t (St.mk (mkT 0 85 [(4, (AV.sh false 0 1 0 8)), (71, (AV.dat (D.list k z l))), (72, (AV.dat (D.int IntKind.i64 (((List.length l) : Nat) : Int)))), (73, (AV.dat (D.int IntKind.i64 (0 : Int))))]) (Mem.mk [(Option.some (Ent.row Mode.excl 1 [[(D.str (ByteArray.mk (List.toArray [119, 104, 121])))], [(D.str x2)], [(D.str (ByteArray.mk (List.toArray [110])))], [(D.str x3)], [(D.str (ByteArray.mk (List.toArray [109])))], [(D.str x4)], [(D.str (ByteArray.mk (List.toArray [100, 97, 116, 97])))], [(D.str x5)]]))] [] 0))) fun x12 =>
 (rGet (fnS (fun (zs : ByteArray) => ((AV.dat (D.str zs)), [])) (S16n [(AV.dat (D.list LK.full 1 (List.take (List.length x12) (List.drop 0 x12)))), (AV.dat (D.str (ByteArray.mk (List.toArray [32]))))] [])) fun x13 =>
 (some ((AV.tup [(AV.dat (D.str x13)), (AV.dat (D.int IntKind.i64 (0 : Int)))]), []))
 )
 )
 )
 )
 )
 (rAsk (decide ((((List.length l) : Nat) : Int) > (0 : Int)))
 (rAsk (Option.isSome (loS TT (TOrc.runs t106) (HSc 6) lp6 out6 (St.mk (mkT 0 85 [(4, (AV.sh false 0 1 0 7)), (71, (AV.dat (D.list k z l))), (72, (AV.dat (D.int IntKind.i64 (((List.length l) : Nat) : Int)))), (73, (AV.dat (D.int IntKind.i64 (0 : Int))))]) (Mem.mk [(Option.some (Ent.row Mode.excl 1 [[(D.str (ByteArray.mk (List.toArray [119, 104, 121])))], [(D.str x2)], [(D.str (ByteArray.mk (List.toArray [110])))], [(D.str x3)], [(D.str (ByteArray.mk (List.toArray [109])))], [(D.str x4)], [(D.str (ByteArray.mk (List.toArray [108, 105, 115, 116])))]]))] [] 0))))
 (rGet (loS TT (TOrc.runs t106) (HSc 6) lp6 out6 (St.mk (mkT 0 85 [(4, (AV.sh false 0 1 0 7)), (71, (AV.dat (D.list k z l))), (72, (AV.dat (D.int IntKind.i64 (((List.length l) : Nat) : Int)))), (73, (AV.dat (D.int IntKind.i64 (0 : Int))))]) (Mem.mk [(Option.some (Ent.row Mode.excl 1 [[(D.str (ByteArray.mk (List.toArray [119, 104, 121])))], [(D.str x2)], [(D.str (ByteArray.mk (List.toArray [110])))], [(D.str x3)], [(D.str (ByteArray.mk (List.toArray [109])))], [(D.str x4)], [(D.str (ByteArray.mk (List.toArray [108, 105, 115, 116])))]]))] [] 0))) fun x14 =>
 (rGet (fnS (fun (zs : ByteArray) => ((AV.dat (D.str zs)), [])) (S16n [(AV.dat (D.list LK.any 1 (List.take (List.length x14) (List.drop 0 x14)))), (AV.dat (D.str (ByteArray.mk (List.toArray [32]))))] [])) fun x15 =>
 (some ((AV.tup [(AV.dat (D.str x15)), (AV.dat (D.int IntKind.i64 (0 : Int)))]), []))
 )
 )
 (rGet (loS TT (TOrc.runs t106) (HSc 6) lp6 out6t (St.mk (mkT 0 85 [(4, (AV.sh false 0 1 0 7)), (71, (AV.dat (D.list k z l))), (72, (AV.dat (D.int IntKind.i64 (((List.length l) : Nat) : Int)))), (73, (AV.dat (D.int IntKind.i64 (0 : Int))))]) (Mem.mk [(Option.some (Ent.row Mode.excl 1 [[(D.str (ByteArray.mk (List.toArray [119, 104, 121])))], [(D.str x2)], [(D.str (ByteArray.mk (List.toArray [110])))], [(D.str x3)], [(D.str (ByteArray.mk (List.toArray [109])))], [(D.str x4)], [(D.str (ByteArray.mk (List.toArray [108, 105, 115, 116])))]]))] [] 0))) fun x16 =>
 (rGet (fnS (fun (zs : ByteArray) => ((AV.dat (D.str zs)), [])) (S16n [(AV.dat (D.list LK.full 1 (List.take (List.length x16) (List.drop 0 x16)))), (AV.dat (D.str (ByteArray.mk (List.toArray [32]))))] [])) fun x17 =>
 (some ((AV.tup [(AV.dat (D.str x17)), (AV.dat (D.int IntKind.i64 (0 : Int)))]), []))
 )
 )
 )
 (rAsk (Option.isSome (loS TT (TOrc.runs t106) (HSc 6) lp6 out6 (St.mk (mkT 0 85 [(4, (AV.sh false 0 1 0 6)), (71, (AV.dat (D.list k z l))), (72, (AV.dat (D.int IntKind.i64 (((List.length l) : Nat) : Int)))), (73, (AV.dat (D.int IntKind.i64 (0 : Int))))]) (Mem.mk [(Option.some (Ent.row Mode.excl 1 [[(D.str (ByteArray.mk (List.toArray [119, 104, 121])))], [(D.str x2)], [(D.str (ByteArray.mk (List.toArray [110])))], [(D.str x3)], [(D.str (ByteArray.mk (List.toArray [109])))], [(D.str x4)]]))] [] 0))))
 (rGet (loS TT (TOrc.runs t106) (HSc 6) lp6 out6 (St.mk (mkT 0 85 [(4, (AV.sh false 0 1 0 6)), (71, (AV.dat (D.list k z l))), (72, (AV.dat (D.int IntKind.i64 (((List.length l) : Nat) : Int)))), (73, (AV.dat (D.int IntKind.i64 (0 : Int))))]) (Mem.mk [(Option.some (Ent.row Mode.excl 1 [[(D.str (ByteArray.mk (List.toArray [119, 104, 121])))], [(D.str x2)], [(D.str (ByteArray.mk (List.toArray [110])))], [(D.str x3)], [(D.str (ByteArray.mk (List.toArray [109])))], [(D.str x4)]]))] [] 0))) fun x18 =>
 (rGet (fnS (fun (zs : ByteArray) => ((AV.dat (D.str zs)), [])) (S16n [(AV.dat (D.list LK.any 1 (List.take (List.length x18) (List.drop 0 x18)))), (AV.dat (D.str (ByteArray.mk (List.toArray [32]))))] [])) fun x19 =>
 (some ((AV.tup [(AV.dat (D.str x19)), (AV.dat (D.int IntKind.i64 (0 : Int)))]), []))
 )
 )
 (rGet (loS TT (TOrc.runs t106) (HSc 6) lp6 out6t (St.mk (mkT 0 85 [(4, (AV.sh false 0 1 0 6)), (71, (AV.dat (D.list k z l))), (72, (AV.dat (D.int IntKind.i64 (((List.length l) : Nat) : Int)))), (73, (AV.dat (D.int IntKind.i64 (0 : Int))))]) (Mem.mk [(Option.some (Ent.row Mode.excl 1 [[(D.str (ByteArray.mk (List.toArray [119, 104, 121])))], [(D.str x2)], [(D.str (ByteArray.mk (List.toArray [110])))], [(D.str x3)], [(D.str (ByteArray.mk (List.toArray [109])))], [(D.str x4)]]))] [] 0))) fun x20 =>
 (rGet (fnS (fun (zs : ByteArray) => ((AV.dat (D.str zs)), [])) (S16n [(AV.dat (D.list LK.full 1 (List.take (List.length x20) (List.drop 0 x20)))), (AV.dat (D.str (ByteArray.mk (List.toArray [32]))))] [])) fun x21 =>
 (some ((AV.tup [(AV.dat (D.str x21)), (AV.dat (D.int IntKind.i64 (0 : Int)))]), []))
 )
 )
 )
 )
 )
 )
 (rAsk (!((ByteArray.toList d) == []))
 (rGet (fnS (fun (zs : ByteArray) => ((AV.dat (D.str zs)), [])) (P7 [(AV.dat (D.str d))] [])) fun x22 =>
 (rAsk (decide ((((List.length l) : Nat) : Int) > (0 : Int)))
 (rAsk (Option.isSome (loS TT (TOrc.runs t106) (HSc 6) lp6 out6 (St.mk (mkT 0 85 [(4, (AV.sh false 0 1 0 7)), (71, (AV.dat (D.list k z l))), (72, (AV.dat (D.int IntKind.i64 (((List.length l) : Nat) : Int)))), (73, (AV.dat (D.int IntKind.i64 (0 : Int))))]) (Mem.mk [(Option.some (Ent.row Mode.excl 1 [[(D.str (ByteArray.mk (List.toArray [119, 104, 121])))], [(D.str x2)], [(D.str (ByteArray.mk (List.toArray [110])))], [(D.str x3)], [(D.str (ByteArray.mk (List.toArray [100, 97, 116, 97])))], [(D.str x22)], [(D.str (ByteArray.mk (List.toArray [108, 105, 115, 116])))]]))] [] 0))))
 (rGet (loS TT (TOrc.runs t106) (HSc 6) lp6 out6 (St.mk (mkT 0 85 [(4, (AV.sh false 0 1 0 7)), (71, (AV.dat (D.list k z l))), (72, (AV.dat (D.int IntKind.i64 (((List.length l) : Nat) : Int)))), (73, (AV.dat (D.int IntKind.i64 (0 : Int))))]) (Mem.mk [(Option.some (Ent.row Mode.excl 1 [[(D.str (ByteArray.mk (List.toArray [119, 104, 121])))], [(D.str x2)], [(D.str (ByteArray.mk (List.toArray [110])))], [(D.str x3)], [(D.str (ByteArray.mk (List.toArray [100, 97, 116, 97])))], [(D.str x22)], [(D.str (ByteArray.mk (List.toArray [108, 105, 115, 116])))]]))] [] 0))) fun x23 =>
 (rGet (fnS (fun (zs : ByteArray) => ((AV.dat (D.str zs)), [])) (S16n [(AV.dat (D.list LK.any 1 (List.take (List.length x23) (List.drop 0 x23)))), (AV.dat (D.str (ByteArray.mk (List.toArray [32]))))] [])) fun x24 =>
 (some ((AV.tup [(AV.dat (D.str x24)), (AV.dat (D.int IntKind.i64 (0 : Int)))]), []))
 )
 )
 (rGet (loS TT (TOrc.runs t106) (HSc 6) lp6 out6t (St.mk (mkT 0 85 [(4, (AV.sh false 0 1 0 7)), (71, (AV.dat (D.list k z l))), (72, (AV.dat (D.int IntKind.i64 (((List.length l) : Nat) : Int)))), (73, (AV.dat (D.int IntKind.i64 (0 : Int))))]) (Mem.mk [(Option.some (Ent.row Mode.excl 1 [[(D.str (ByteArray.mk (List.toArray [119, 104, 121])))], [(D.str x2)], [(D.str (ByteArray.mk (List.toArray [110])))], [(D.str x3)], [(D.str (ByteArray.mk (List.toArray [100, 97, 116, 97])))], [(D.str x22)], [(D.str (ByteArray.mk (List.toArray [108, 105, 115, 116])))]]))] [] 0))) fun x25 =>
 (rGet (fnS (fun (zs : ByteArray) => ((AV.dat (D.str zs)), [])) (S16n [(AV.dat (D.list LK.full 1 (List.take (List.length x25) (List.drop 0 x25)))), (AV.dat (D.str (ByteArray.mk (List.toArray [32]))))] [])) fun x26 =>
 (some ((AV.tup [(AV.dat (D.str x26)), (AV.dat (D.int IntKind.i64 (0 : Int)))]), []))
 )
 )
 )
 (rAsk (Option.isSome (loS TT (TOrc.runs t106) (HSc 6) lp6 out6 (St.mk (mkT 0 85 [(4, (AV.sh false 0 1 0 6)), (71, (AV.dat (D.list k z l))), (72, (AV.dat (D.int IntKind.i64 (((List.length l) : Nat) : Int)))), (73, (AV.dat (D.int IntKind.i64 (0 : Int))))]) (Mem.mk [(Option.some (Ent.row Mode.excl 1 [[(D.str (ByteArray.mk (List.toArray [119, 104, 121])))], [(D.str x2)], [(D.str (ByteArray.mk (List.toArray [110])))], [(D.str x3)], [(D.str (ByteArray.mk (List.toArray [100, 97, 116, 97])))], [(D.str x22)]]))] [] 0))))
 (rGet (loS TT (TOrc.runs t106) (HSc 6) lp6 out6 (St.mk (mkT 0 85 [(4, (AV.sh false 0 1 0 6)), (71, (AV.dat (D.list k z l))), (72, (AV.dat (D.int IntKind.i64 (((List.length l) : Nat) : Int)))), (73, (AV.dat (D.int IntKind.i64 (0 : Int))))]) (Mem.mk [(Option.some (Ent.row Mode.excl 1 [[(D.str (ByteArray.mk (List.toArray [119, 104, 121])))], [(D.str x2)], [(D.str (ByteArray.mk (List.toArray [110])))], [(D.str x3)], [(D.str (ByteArray.mk (List.toArray [100, 97, 116, 97])))], [(D.str x22)]]))] [] 0))) fun x27 =>
 (rGet (fnS (fun (zs : ByteArray) => ((AV.dat (D.str zs)), [])) (S16n [(AV.dat (D.list LK.any 1 (List.take (List.length x27) (List.drop 0 x27)))), (AV.dat (D.str (ByteArray.mk (List.toArray [32]))))] [])) fun x28 =>
 (some ((AV.tup [(AV.dat (D.str x28)), (AV.dat (D.int IntKind.i64 (0 : Int)))]), []))
 )
 )
 (rGet (loS TT (TOrc.runs t106) (HSc 6) lp6 out6t (St.mk (mkT 0 85 [(4, (AV.sh false 0 1 0 6)), (71, (AV.dat (D.list k z l))), (72, (AV.dat (D.int IntKind.i64 (((List.length l) : Nat) : Int)))), (73, (AV.dat (D.int IntKind.i64 (0 : Int))))]) (Mem.mk [(Option.some (Ent.row Mode.excl 1 [[(D.str (ByteArray.mk (List.toArray [119, 104, 121])))], [(D.str x2)], [(D.str (ByteArray.mk (List.toArray [110])))], [(D.str x3)], [(D.str (ByteArray.mk (List.toArray [100, 97, 116, 97])))], [(D.str x22)]]))] [] 0))) fun x29 =>
 (rGet (fnS (fun (zs : ByteArray) => ((AV.dat (D.str zs)), [])) (S16n [(AV.dat (D.list LK.full 1 (List.take (List.length x29) (List.drop 0 x29)))), (AV.dat (D.str (ByteArray.mk (List.toArray [32]))))] [])) fun x30 =>
 (some ((AV.tup [(AV.dat (D.str x30)), (AV.dat (D.int IntKind.i64 (0 : Int)))]), []))
 )
 )
 )
 )
 )
 (rAsk (decide ((((List.length l) : Nat) : Int) > (0 : Int)))
 (rAsk (Option.isSome (loS TT (TOrc.runs t106) (HSc 6) lp6 out6 (St.mk (mkT 0 85 [(4, (AV.sh false 0 1 0 5)), (71, (AV.dat (D.list k z l))), (72, (AV.dat (D.int IntKind.i64 (((List.length l) : Nat) : Int)))), (73, (AV.dat (D.int IntKind.i64 (0 : Int))))]) (Mem.mk [(Option.some (Ent.row Mode.excl 1 [[(D.str (ByteArray.mk (List.toArray [119, 104, 121])))], [(D.str x2)], [(D.str (ByteArray.mk (List.toArray [110])))], [(D.str x3)], [(D.str (ByteArray.mk (List.toArray [108, 105, 115, 116])))]]))] [] 0))))
 (rGet (loS TT (TOrc.runs t106) (HSc 6) lp6 out6 (St.mk (mkT 0 85 [(4, (AV.sh false 0 1 0 5)), (71, (AV.dat (D.list k z l))), (72, (AV.dat (D.int IntKind.i64 (((List.length l) : Nat) : Int)))), (73, (AV.dat (D.int IntKind.i64 (0 : Int))))]) (Mem.mk [(Option.some (Ent.row Mode.excl 1 [[(D.str (ByteArray.mk (List.toArray [119, 104, 121])))], [(D.str x2)], [(D.str (ByteArray.mk (List.toArray [110])))], [(D.str x3)], [(D.str (ByteArray.mk (List.toArray [108, 105, 115, 116])))]]))] [] 0))) fun x31 =>
 (rGet (fnS (fun (zs : ByteArray) => ((AV.dat (D.str zs)), [])) (S16n [(AV.dat (D.list LK.any 1 (List.take (List.length x31) (List.drop 0 x31)))), (AV.dat (D.str (ByteArray.mk (List.toArray [32]))))] [])) fun x32 =>
 (some ((AV.tup [(AV.dat (D.str x32)), (AV.dat (D.int IntKind.i64 (0 : Int)))]), []))
 )
 )
 (rGet (loS TT (TOrc.runs t106) (HSc 6) lp6 out6t (St.mk (mkT 0 85 [(4, (AV.sh false 0 1 0 5)), (71, (AV.dat (D.list k z l))), (72, (AV.dat (D.int IntKind.i64 (((List.length l) : Nat) : Int)))), (73, (AV.dat (D.int IntKind.i64 (0 : Int))))]) (Mem.mk [(Option.some (Ent.row Mode.excl 1 [[(D.str (ByteArray.mk (List.toArray [119, 104, 121])))], [(D.str x2)], [(D.str (ByteArray.mk (List.toArray [110])))], [(D.str x3)], [(D.str (ByteArray.mk (List.toArray [108, 105, 115, 116])))]]))] [] 0))) fun x33 =>
 (rGet (fnS (fun (zs : ByteArray) => ((AV.dat (D.str zs)), [])) (S16n [(AV.dat (D.list LK.full 1 (List.take (List.length x33) (List.drop 0 x33)))), (AV.dat (D.str (ByteArray.mk (List.toArray [32]))))] [])) fun x34 =>
 (some ((AV.tup [(AV.dat (D.str x34)), (AV.dat (D.int IntKind.i64 (0 : Int)))]), []))
 )
 )
 )
 (rAsk (Option.isSome (loS TT (TOrc.runs t106) (HSc 6) lp6 out6 (St.mk (mkT 0 85 [(4, (AV.sh false 0 1 0 4)), (71, (AV.dat (D.list k z l))), (72, (AV.dat (D.int IntKind.i64 (((List.length l) : Nat) : Int)))), (73, (AV.dat (D.int IntKind.i64 (0 : Int))))]) (Mem.mk [(Option.some (Ent.row Mode.excl 1 [[(D.str (ByteArray.mk (List.toArray [119, 104, 121])))], [(D.str x2)], [(D.str (ByteArray.mk (List.toArray [110])))], [(D.str x3)]]))] [] 0))))
 (rGet (loS TT (TOrc.runs t106) (HSc 6) lp6 out6 (St.mk (mkT 0 85 [(4, (AV.sh false 0 1 0 4)), (71, (AV.dat (D.list k z l))), (72, (AV.dat (D.int IntKind.i64 (((List.length l) : Nat) : Int)))), (73, (AV.dat (D.int IntKind.i64 (0 : Int))))]) (Mem.mk [(Option.some (Ent.row Mode.excl 1 [[(D.str (ByteArray.mk (List.toArray [119, 104, 121])))], [(D.str x2)], [(D.str (ByteArray.mk (List.toArray [110])))], [(D.str x3)]]))] [] 0))) fun x35 =>
 (rGet (fnS (fun (zs : ByteArray) => ((AV.dat (D.str zs)), [])) (S16n [(AV.dat (D.list LK.any 1 (List.take (List.length x35) (List.drop 0 x35)))), (AV.dat (D.str (ByteArray.mk (List.toArray [32]))))] [])) fun x36 =>
 (some ((AV.tup [(AV.dat (D.str x36)), (AV.dat (D.int IntKind.i64 (0 : Int)))]), []))
 )
 )
 (rGet (loS TT (TOrc.runs t106) (HSc 6) lp6 out6t (St.mk (mkT 0 85 [(4, (AV.sh false 0 1 0 4)), (71, (AV.dat (D.list k z l))), (72, (AV.dat (D.int IntKind.i64 (((List.length l) : Nat) : Int)))), (73, (AV.dat (D.int IntKind.i64 (0 : Int))))]) (Mem.mk [(Option.some (Ent.row Mode.excl 1 [[(D.str (ByteArray.mk (List.toArray [119, 104, 121])))], [(D.str x2)], [(D.str (ByteArray.mk (List.toArray [110])))], [(D.str x3)]]))] [] 0))) fun x37 =>
 (rGet (fnS (fun (zs : ByteArray) => ((AV.dat (D.str zs)), [])) (S16n [(AV.dat (D.list LK.full 1 (List.take (List.length x37) (List.drop 0 x37)))), (AV.dat (D.str (ByteArray.mk (List.toArray [32]))))] [])) fun x38 =>
 (some ((AV.tup [(AV.dat (D.str x38)), (AV.dat (D.int IntKind.i64 (0 : Int)))]), []))
 )
 )
 )
 )
 )
 )
 )
 (rAsk (m != (0 : Int))
 (rGet (fnS (fun (zs : ByteArray) => ((AV.dat (D.str zs)), [])) (S14 [(AV.dat (D.int IntKind.i64 m)), (AV.dat (D.int IntKind.i64 (10 : Int)))] [])) fun x39 =>
 (rAsk (!((ByteArray.toList d) == []))
 (rGet (fnS (fun (zs : ByteArray) => ((AV.dat (D.str zs)), [])) (P7 [(AV.dat (D.str d))] [])) fun x40 =>
 (rAsk (decide ((((List.length l) : Nat) : Int) > (0 : Int)))
 (rAsk (Option.isSome (loS TT (TOrc.runs t106) (HSc 6) lp6 out6 (St.mk (mkT 0 85 [(4, (AV.sh false 0 1 0 7)), (71, (AV.dat (D.list k z l))), (72, (AV.dat (D.int IntKind.i64 (((List.length l) : Nat) : Int)))), (73, (AV.dat (D.int IntKind.i64 (0 : Int))))]) (Mem.mk [(Option.some (Ent.row Mode.excl 1 [[(D.str (ByteArray.mk (List.toArray [119, 104, 121])))], [(D.str x2)], [(D.str (ByteArray.mk (List.toArray [109])))], [(D.str x39)], [(D.str (ByteArray.mk (List.toArray [100, 97, 116, 97])))], [(D.str x40)], [(D.str (ByteArray.mk (List.toArray [108, 105, 115, 116])))]]))] [] 0))))
 (rGet (loS TT (TOrc.runs t106) (HSc 6) lp6 out6 (St.mk (mkT 0 85 [(4, (AV.sh false 0 1 0 7)), (71, (AV.dat (D.list k z l))), (72, (AV.dat (D.int IntKind.i64 (((List.length l) : Nat) : Int)))), (73, (AV.dat (D.int IntKind.i64 (0 : Int))))]) (Mem.mk [(Option.some (Ent.row Mode.excl 1 [[(D.str (ByteArray.mk (List.toArray [119, 104, 121])))], [(D.str x2)], [(D.str (ByteArray.mk (List.toArray [109])))], [(D.str x39)], [(D.str (ByteArray.mk (List.toArray [100, 97, 116, 97])))], [(D.str x40)], [(D.str (ByteArray.mk (List.toArray [108, 105, 115, 116])))]]))] [] 0))) fun x41 =>
 (rGet (fnS (fun (zs : ByteArray) => ((AV.dat (D.str zs)), [])) (S16n [(AV.dat (D.list LK.any 1 (List.take (List.length x41) (List.drop 0 x41)))), (AV.dat (D.str (ByteArray.mk (List.toArray [32]))))] [])) fun x42 =>
 (some ((AV.tup [(AV.dat (D.str x42)), (AV.dat (D.int IntKind.i64 (0 : Int)))]), []))
 )
 )
 (rGet (loS TT (TOrc.runs t106) (HSc 6) lp6 out6t (St.mk (mkT 0 85 [(4, (AV.sh false 0 1 0 7)), (71, (AV.dat (D.list k z l))), (72, (AV.dat (D.int IntKind.i64 (((List.length l) : Nat) : Int)))), (73, (AV.dat (D.int IntKind.i64 (0 : Int))))]) (Mem.mk [(Option.some (Ent.row Mode.excl 1 [[(D.str (ByteArray.mk (List.toArray [119, 104, 121])))], [(D.str x2)], [(D.str (ByteArray.mk (List.toArray [109])))], [(D.str x39)], [(D.str (ByteArray.mk (List.toArray [100, 97, 116, 97])))], [(D.str x40)], [(D.str (ByteArray.mk (List.toArray [108, 105, 115, 116])))]]))] [] 0))) fun x43 =>
 (rGet (fnS (fun (zs : ByteArray) => ((AV.dat (D.str zs)), [])) (S16n [(AV.dat (D.list LK.full 1 (List.take (List.length x43) (List.drop 0 x43)))), (AV.dat (D.str (ByteArray.mk (List.toArray [32]))))] [])) fun x44 =>
 (some ((AV.tup [(AV.dat (D.str x44)), (AV.dat (D.int IntKind.i64 (0 : Int)))]), []))
 )
 )
 )
 (rAsk (Option.isSome (loS TT (TOrc.runs t106) (HSc 6) lp6 out6 (St.mk (mkT 0 85 [(4, (AV.sh false 0 1 0 6)), (71, (AV.dat (D.list k z l))), (72, (AV.dat (D.int IntKind.i64 (((List.length l) : Nat) : Int)))), (73, (AV.dat (D.int IntKind.i64 (0 : Int))))]) (Mem.mk [(Option.some (Ent.row Mode.excl 1 [[(D.str (ByteArray.mk (List.toArray [119, 104, 121])))], [(D.str x2)], [(D.str (ByteArray.mk (List.toArray [109])))], [(D.str x39)], [(D.str (ByteArray.mk (List.toArray [100, 97, 116, 97])))], [(D.str x40)]]))] [] 0))))
 (rGet (loS TT (TOrc.runs t106) (HSc 6) lp6 out6 (St.mk (mkT 0 85 [(4, (AV.sh false 0 1 0 6)), (71, (AV.dat (D.list k z l))), (72, (AV.dat (D.int IntKind.i64 (((List.length l) : Nat) : Int)))), (73, (AV.dat (D.int IntKind.i64 (0 : Int))))]) (Mem.mk [(Option.some (Ent.row Mode.excl 1 [[(D.str (ByteArray.mk (List.toArray [119, 104, 121])))], [(D.str x2)], [(D.str (ByteArray.mk (List.toArray [109])))], [(D.str x39)], [(D.str (ByteArray.mk (List.toArray [100, 97, 116, 97])))], [(D.str x40)]]))] [] 0))) fun x45 =>
 (rGet (fnS (fun (zs : ByteArray) => ((AV.dat (D.str zs)), [])) (S16n [(AV.dat (D.list LK.any 1 (List.take (List.length x45) (List.drop 0 x45)))), (AV.dat (D.str (ByteArray.mk (List.toArray [32]))))] [])) fun x46 =>
 (some ((AV.tup [(AV.dat (D.str x46)), (AV.dat (D.int IntKind.i64 (0 : Int)))]), []))
 )
 )
 (rGet (loS TT (TOrc.runs t106) (HSc 6) lp6 out6t (St.mk (mkT 0 85 [(4, (AV.sh false 0 1 0 6)), (71, (AV.dat (D.list k z l))), (72, (AV.dat (D.int IntKind.i64 (((List.length l) : Nat) : Int)))), (73, (AV.dat (D.int IntKind.i64 (0 : Int))))]) (Mem.mk [(Option.some (Ent.row Mode.excl 1 [[(D.str (ByteArray.mk (List.toArray [119, 104, 121])))], [(D.str x2)], [(D.str (ByteArray.mk (List.toArray [109])))], [(D.str x39)], [(D.str (ByteArray.mk (List.toArray [100, 97, 116, 97])))], [(D.str x40)]]))] [] 0))) fun x47 =>
 (rGet (fnS (fun (zs : ByteArray) => ((AV.dat (D.str zs)), [])) (S16n [(AV.dat (D.list LK.full 1 (List.take (List.length x47) (List.drop 0 x47)))), (AV.dat (D.str (ByteArray.mk (List.toArray [32]))))] [])) fun x48 =>
 (some ((AV.tup [(AV.dat (D.str x48)), (AV.dat (D.int IntKind.i64 (0 : Int)))]), []))
 )
 )
 )
 )
 )
 (rAsk (decide ((((List.length l) : Nat) : Int) > (0 : Int)))
 (rAsk (Option.isSome (loS TT (TOrc.runs t106) (HSc 6) lp6 out6 (St.mk (mkT 0 85 [(4, (AV.sh false 0 1 0 5)), (71, (AV.dat (D.list k z l))), (72, (AV.dat (D.int IntKind.i64 (((List.length l) : Nat) : Int)))), (73, (AV.dat (D.int IntKind.i64 (0 : Int))))]) (Mem.mk [(Option.some (Ent.row Mode.excl 1 [[(D.str (ByteArray.mk (List.toArray [119, 104, 121])))], [(D.str x2)], [(D.str (ByteArray.mk (List.toArray [109])))], [(D.str x39)], [(D.str (ByteArray.mk (List.toArray [108, 105, 115, 116])))]]))] [] 0))))
 (rGet (loS TT (TOrc.runs t106) (HSc 6) lp6 out6 (St.mk (mkT 0 85 [(4, (AV.sh false 0 1 0 5)), (71, (AV.dat (D.list k z l))), (72, (AV.dat (D.int IntKind.i64 (((List.length l) : Nat) : Int)))), (73, (AV.dat (D.int IntKind.i64 (0 : Int))))]) (Mem.mk [(Option.some (Ent.row Mode.excl 1 [[(D.str (ByteArray.mk (List.toArray [119, 104, 121])))], [(D.str x2)], [(D.str (ByteArray.mk (List.toArray [109])))], [(D.str x39)], [(D.str (ByteArray.mk (List.toArray [108, 105, 115, 116])))]]))] [] 0))) fun x49 =>
 (rGet (fnS (fun (zs : ByteArray) => ((AV.dat (D.str zs)), [])) (S16n [(AV.dat (D.list LK.any 1 (List.take (List.length x49) (List.drop 0 x49)))), (AV.dat (D.str (ByteArray.mk (List.toArray [32]))))] [])) fun x50 =>
 (some ((AV.tup [(AV.dat (D.str x50)), (AV.dat (D.int IntKind.i64 (0 : Int)))]), []))
 )
 )
 (rGet (loS TT (TOrc.runs t106) (HSc 6) lp6 out6t (St.mk (mkT 0 85 [(4, (AV.sh false 0 1 0 5)), (71, (AV.dat (D.list k z l))), (72, (AV.dat (D.int IntKind.i64 (((List.length l) : Nat) : Int)))), (73, (AV.dat (D.int IntKind.i64 (0 : Int))))]) (Mem.mk [(Option.some (Ent.row Mode.excl 1 [[(D.str (ByteArray.mk (List.toArray [119, 104, 121])))], [(D.str x2)], [(D.str (ByteArray.mk (List.toArray [109])))], [(D.str x39)], [(D.str (ByteArray.mk (List.toArray [108, 105, 115, 116])))]]))] [] 0))) fun x51 =>
 (rGet (fnS (fun (zs : ByteArray) => ((AV.dat (D.str zs)), [])) (S16n [(AV.dat (D.list LK.full 1 (List.take (List.length x51) (List.drop 0 x51)))), (AV.dat (D.str (ByteArray.mk (List.toArray [32]))))] [])) fun x52 =>
 (some ((AV.tup [(AV.dat (D.str x52)), (AV.dat (D.int IntKind.i64 (0 : Int)))]), []))
 )
 )
 )
 (rAsk (Option.isSome (loS TT (TOrc.runs t106) (HSc 6) lp6 out6 (St.mk (mkT 0 85 [(4, (AV.sh false 0 1 0 4)), (71, (AV.dat (D.list k z l))), (72, (AV.dat (D.int IntKind.i64 (((List.length l) : Nat) : Int)))), (73, (AV.dat (D.int IntKind.i64 (0 : Int))))]) (Mem.mk [(Option.some (Ent.row Mode.excl 1 [[(D.str (ByteArray.mk (List.toArray [119, 104, 121])))], [(D.str x2)], [(D.str (ByteArray.mk (List.toArray [109])))], [(D.str x39)]]))] [] 0))))
 (rGet (loS TT (TOrc.runs t106) (HSc 6) lp6 out6 (St.mk (mkT 0 85 [(4, (AV.sh false 0 1 0 4)), (71, (AV.dat (D.list k z l))), (72, (AV.dat (D.int IntKind.i64 (((List.length l) : Nat) : Int)))), (73, (AV.dat (D.int IntKind.i64 (0 : Int))))]) (Mem.mk [(Option.some (Ent.row Mode.excl 1 [[(D.str (ByteArray.mk (List.toArray [119, 104, 121])))], [(D.str x2)], [(D.str (ByteArray.mk (List.toArray [109])))], [(D.str x39)]]))] [] 0))) fun x53 =>
 (rGet (fnS (fun (zs : ByteArray) => ((AV.dat (D.str zs)), [])) (S16n [(AV.dat (D.list LK.any 1 (List.take (List.length x53) (List.drop 0 x53)))), (AV.dat (D.str (ByteArray.mk (List.toArray [32]))))] [])) fun x54 =>
 (some ((AV.tup [(AV.dat (D.str x54)), (AV.dat (D.int IntKind.i64 (0 : Int)))]), []))
 )
 )
 (rGet (loS TT (TOrc.runs t106) (HSc 6) lp6 out6t (St.mk (mkT 0 85 [(4, (AV.sh false 0 1 0 4)), (71, (AV.dat (D.list k z l))), (72, (AV.dat (D.int IntKind.i64 (((List.length l) : Nat) : Int)))), (73, (AV.dat (D.int IntKind.i64 (0 : Int))))]) (Mem.mk [(Option.some (Ent.row Mode.excl 1 [[(D.str (ByteArray.mk (List.toArray [119, 104, 121])))], [(D.str x2)], [(D.str (ByteArray.mk (List.toArray [109])))], [(D.str x39)]]))] [] 0))) fun x55 =>
 (rGet (fnS (fun (zs : ByteArray) => ((AV.dat (D.str zs)), [])) (S16n [(AV.dat (D.list LK.full 1 (List.take (List.length x55) (List.drop 0 x55)))), (AV.dat (D.str (ByteArray.mk (List.toArray [32]))))] [])) fun x56 =>
 (some ((AV.tup [(AV.dat (D.str x56)), (AV.dat (D.int IntKind.i64 (0 : Int)))]), []))
 )
 )
 )
 )
 )
 )
 (rAsk (!((ByteArray.toList d) == []))
 (rGet (fnS (fun (zs : ByteArray) => ((AV.dat (D.str zs)), [])) (P7 [(AV.dat (D.str d))] [])) fun x57 =>
 (rAsk (decide ((((List.length l) : Nat) : Int) > (0 : Int)))
 (rAsk (Option.isSome (loS TT (TOrc.runs t106) (HSc 6) lp6 out6 (St.mk (mkT 0 85 [(4, (AV.sh false 0 1 0 5)), (71, (AV.dat (D.list k z l))), (72, (AV.dat (D.int IntKind.i64 (((List.length l) : Nat) : Int)))), (73, (AV.dat (D.int IntKind.i64 (0 : Int))))]) (Mem.mk [(Option.some (Ent.row Mode.excl 1 [[(D.str (ByteArray.mk (List.toArray [119, 104, 121])))], [(D.str x2)], [(D.str (ByteArray.mk (List.toArray [100, 97, 116, 97])))], [(D.str x57)], [(D.str (ByteArray.mk (List.toArray [108, 105, 115, 116])))]]))] [] 0))))
 (rGet (loS TT (TOrc.runs t106) (HSc 6) lp6 out6 (St.mk (mkT 0 85 [(4, (AV.sh false 0 1 0 5)), (71, (AV.dat (D.list k z l))), (72, (AV.dat (D.int IntKind.i64 (((List.length l) : Nat) : Int)))), (73, (AV.dat (D.int IntKind.i64 (0 : Int))))]) (Mem.mk [(Option.some (Ent.row Mode.excl 1 [[(D.str (ByteArray.mk (List.toArray [119, 104, 121])))], [(D.str x2)], [(D.str (ByteArray.mk (List.toArray [100, 97, 116, 97])))], [(D.str x57)], [(D.str (ByteArray.mk (List.toArray [108, 105, 115, 116])))]]))] [] 0))) fun x58 =>
 (rGet (fnS (fun (zs : ByteArray) => ((AV.dat (D.str zs)), [])) (S16n [(AV.dat (D.list LK.any 1 (List.take (List.length x58) (List.drop 0 x58)))), (AV.dat (D.str (ByteArray.mk (List.toArray [32]))))] [])) fun x59 =>
 (some ((AV.tup [(AV.dat (D.str x59)), (AV.dat (D.int IntKind.i64 (0 : Int)))]), []))
 )
 )
 (rGet (loS TT (TOrc.runs t106) (HSc 6) lp6 out6t (St.mk (mkT 0 85 [(4, (AV.sh false 0 1 0 5)), (71, (AV.dat (D.list k z l))), (72, (AV.dat (D.int IntKind.i64 (((List.length l) : Nat) : Int)))), (73, (AV.dat (D.int IntKind.i64 (0 : Int))))]) (Mem.mk [(Option.some (Ent.row Mode.excl 1 [[(D.str (ByteArray.mk (List.toArray [119, 104, 121])))], [(D.str x2)], [(D.str (ByteArray.mk (List.toArray [100, 97, 116, 97])))], [(D.str x57)], [(D.str (ByteArray.mk (List.toArray [108, 105, 115, 116])))]]))] [] 0))) fun x60 =>
 (rGet (fnS (fun (zs : ByteArray) => ((AV.dat (D.str zs)), [])) (S16n [(AV.dat (D.list LK.full 1 (List.take (List.length x60) (List.drop 0 x60)))), (AV.dat (D.str (ByteArray.mk (List.toArray [32]))))] [])) fun x61 =>
 (some ((AV.tup [(AV.dat (D.str x61)), (AV.dat (D.int IntKind.i64 (0 : Int)))]), []))
 )
 )
 )
 (rAsk (Option.isSome (loS TT (TOrc.runs t106) (HSc 6) lp6 out6 (St.mk (mkT 0 85 [(4, (AV.sh false 0 1 0 4)), (71, (AV.dat (D.list k z l))), (72, (AV.dat (D.int IntKind.i64 (((List.length l) : Nat) : Int)))), (73, (AV.dat (D.int IntKind.i64 (0 : Int))))]) (Mem.mk [(Option.some (Ent.row Mode.excl 1 [[(D.str (ByteArray.mk (List.toArray [119, 104, 121])))], [(D.str x2)], [(D.str (ByteArray.mk (List.toArray [100, 97, 116, 97])))], [(D.str x57)]]))] [] 0))))
 (rGet (loS TT (TOrc.runs t106) (HSc 6) lp6 out6 (St.mk (mkT 0 85 [(4, (AV.sh false 0 1 0 4)), (71, (AV.dat (D.list k z l))), (72, (AV.dat (D.int IntKind.i64 (((List.length l) : Nat) : Int)))), (73, (AV.dat (D.int IntKind.i64 (0 : Int))))]) (Mem.mk [(Option.some (Ent.row Mode.excl 1 [[(D.str (ByteArray.mk (List.toArray [119, 104, 121])))], [(D.str x2)], [(D.str (ByteArray.mk (List.toArray [100, 97, 116, 97])))], [(D.str x57)]]))] [] 0))) fun x62 =>
 (rGet (fnS (fun (zs : ByteArray) => ((AV.dat (D.str zs)), [])) (S16n [(AV.dat (D.list LK.any 1 (List.take (List.length x62) (List.drop 0 x62)))), (AV.dat (D.str (ByteArray.mk (List.toArray [32]))))] [])) fun x63 =>
 (some ((AV.tup [(AV.dat (D.str x63)), (AV.dat (D.int IntKind.i64 (0 : Int)))]), []))
 )
 )
 (rGet (loS TT (TOrc.runs t106) (HSc 6) lp6 out6t (St.mk (mkT 0 85 [(4, (AV.sh false 0 1 0 4)), (71, (AV.dat (D.list k z l))), (72, (AV.dat (D.int IntKind.i64 (((List.length l) : Nat) : Int)))), (73, (AV.dat (D.int IntKind.i64 (0 : Int))))]) (Mem.mk [(Option.some (Ent.row Mode.excl 1 [[(D.str (ByteArray.mk (List.toArray [119, 104, 121])))], [(D.str x2)], [(D.str (ByteArray.mk (List.toArray [100, 97, 116, 97])))], [(D.str x57)]]))] [] 0))) fun x64 =>
 (rGet (fnS (fun (zs : ByteArray) => ((AV.dat (D.str zs)), [])) (S16n [(AV.dat (D.list LK.full 1 (List.take (List.length x64) (List.drop 0 x64)))), (AV.dat (D.str (ByteArray.mk (List.toArray [32]))))] [])) fun x65 =>
 (some ((AV.tup [(AV.dat (D.str x65)), (AV.dat (D.int IntKind.i64 (0 : Int)))]), []))
 )
 )
 )
 )
 )
 (rAsk (decide ((((List.length l) : Nat) : Int) > (0 : Int)))
 (rAsk (Option.isSome (loS TT (TOrc.runs t106) (HSc 6) lp6 out6 (St.mk (mkT 0 85 [(4, (AV.sh false 0 1 0 3)), (71, (AV.dat (D.list k z l))), (72, (AV.dat (D.int IntKind.i64 (((List.length l) : Nat) : Int)))), (73, (AV.dat (D.int IntKind.i64 (0 : Int))))]) (Mem.mk [(Option.some (Ent.row Mode.excl 1 [[(D.str (ByteArray.mk (List.toArray [119, 104, 121])))], [(D.str x2)], [(D.str (ByteArray.mk (List.toArray [108, 105, 115, 116])))]]))] [] 0))))
 (rGet (loS TT (TOrc.runs t106) (HSc 6) lp6 out6 (St.mk (mkT 0 85 [(4, (AV.sh false 0 1 0 3)), (71, (AV.dat (D.list k z l))), (72, (AV.dat (D.int IntKind.i64 (((List.length l) : Nat) : Int)))), (73, (AV.dat (D.int IntKind.i64 (0 : Int))))]) (Mem.mk [(Option.some (Ent.row Mode.excl 1 [[(D.str (ByteArray.mk (List.toArray [119, 104, 121])))], [(D.str x2)], [(D.str (ByteArray.mk (List.toArray [108, 105, 115, 116])))]]))] [] 0))) fun x66 =>
 (rGet (fnS (fun (zs : ByteArray) => ((AV.dat (D.str zs)), [])) (S16n [(AV.dat (D.list LK.any 1 (List.take (List.length x66) (List.drop 0 x66)))), (AV.dat (D.str (ByteArray.mk (List.toArray [32]))))] [])) fun x67 =>
 (some ((AV.tup [(AV.dat (D.str x67)), (AV.dat (D.int IntKind.i64 (0 : Int)))]), []))
 )
 )
 (rGet (loS TT (TOrc.runs t106) (HSc 6) lp6 out6t (St.mk (mkT 0 85 [(4, (AV.sh false 0 1 0 3)), (71, (AV.dat (D.list k z l))), (72, (AV.dat (D.int IntKind.i64 (((List.length l) : Nat) : Int)))), (73, (AV.dat (D.int IntKind.i64 (0 : Int))))]) (Mem.mk [(Option.some (Ent.row Mode.excl 1 [[(D.str (ByteArray.mk (List.toArray [119, 104, 121])))], [(D.str x2)], [(D.str (ByteArray.mk (List.toArray [108, 105, 115, 116])))]]))] [] 0))) fun x68 =>
 (rGet (fnS (fun (zs : ByteArray) => ((AV.dat (D.str zs)), [])) (S16n [(AV.dat (D.list LK.full 1 (List.take (List.length x68) (List.drop 0 x68)))), (AV.dat (D.str (ByteArray.mk (List.toArray [32]))))] [])) fun x69 =>
 (some ((AV.tup [(AV.dat (D.str x69)), (AV.dat (D.int IntKind.i64 (0 : Int)))]), []))
 )
 )
 )
 (rAsk (Option.isSome (loS TT (TOrc.runs t106) (HSc 6) lp6 out6 (St.mk (mkT 0 85 [(4, (AV.sh true 0 1 0 2)), (71, (AV.dat (D.list k z l))), (72, (AV.dat (D.int IntKind.i64 (((List.length l) : Nat) : Int)))), (73, (AV.dat (D.int IntKind.i64 (0 : Int))))]) (Mem.mk [(Option.some (Ent.row Mode.excl 1 [[(D.str (ByteArray.mk (List.toArray [119, 104, 121])))], [(D.str x2)]]))] [] 0))))
 (rGet (loS TT (TOrc.runs t106) (HSc 6) lp6 out6 (St.mk (mkT 0 85 [(4, (AV.sh true 0 1 0 2)), (71, (AV.dat (D.list k z l))), (72, (AV.dat (D.int IntKind.i64 (((List.length l) : Nat) : Int)))), (73, (AV.dat (D.int IntKind.i64 (0 : Int))))]) (Mem.mk [(Option.some (Ent.row Mode.excl 1 [[(D.str (ByteArray.mk (List.toArray [119, 104, 121])))], [(D.str x2)]]))] [] 0))) fun x70 =>
 (rGet (fnS (fun (zs : ByteArray) => ((AV.dat (D.str zs)), [])) (S16n [(AV.dat (D.list LK.any 1 (List.take (List.length x70) (List.drop 0 x70)))), (AV.dat (D.str (ByteArray.mk (List.toArray [32]))))] [])) fun x71 =>
 (some ((AV.tup [(AV.dat (D.str x71)), (AV.dat (D.int IntKind.i64 (0 : Int)))]), []))
 )
 )
 (rGet (loS TT (TOrc.runs t106) (HSc 6) lp6 out6t (St.mk (mkT 0 85 [(4, (AV.sh true 0 1 0 2)), (71, (AV.dat (D.list k z l))), (72, (AV.dat (D.int IntKind.i64 (((List.length l) : Nat) : Int)))), (73, (AV.dat (D.int IntKind.i64 (0 : Int))))]) (Mem.mk [(Option.some (Ent.row Mode.excl 1 [[(D.str (ByteArray.mk (List.toArray [119, 104, 121])))], [(D.str x2)]]))] [] 0))) fun x72 =>
 (rGet (fnS (fun (zs : ByteArray) => ((AV.dat (D.str zs)), [])) (S16n [(AV.dat (D.list LK.full 1 (List.take (List.length x72) (List.drop 0 x72)))), (AV.dat (D.str (ByteArray.mk (List.toArray [32]))))] [])) fun x73 =>
 (some ((AV.tup [(AV.dat (D.str x73)), (AV.dat (D.int IntKind.i64 (0 : Int)))]), []))
 )
 )
 )
 )
 )
 )
 )
 )
 )
 )
 )
 (rAsk (decide ((((List.length l) : Nat) : Int) > (60 : Int)))
 (some ((AV.tup [(AV.dat (D.str (ByteArray.mk (List.toArray [])))), (AV.dat (D.int IntKind.i64 (6 : Int)))]), []))
 (rGet (fnS (fun (zs : ByteArray) => ((AV.dat (D.str zs)), [])) (S13 [(AV.dat (D.int IntKind.i64 why))] [])) fun x74 =>
 (rAsk (n != (0 : Int))
 (rGet (fnS (fun (zs : ByteArray) => ((AV.dat (D.str zs)), [])) (S14 [(AV.dat (D.int IntKind.i64 n)), (AV.dat (D.int IntKind.i64 (10 : Int)))] [])) fun x75 =>
 (rAsk (m != (0 : Int))
 (rGet (fnS (fun (zs : ByteArray) => ((AV.dat (D.str zs)), [])) (S14 [(AV.dat (D.int IntKind.i64 m)), (AV.dat (D.int IntKind.i64 (10 : Int)))] [])) fun x76 =>
 (rAsk (!((ByteArray.toList d) == []))
 (rGet (fnS (fun (zs : ByteArray) => ((AV.dat (D.str zs)), [])) (P7 [(AV.dat (D.str d))] [])) fun x77 =>
 (rAsk (decide ((((List.length l) : Nat) : Int) > (0 : Int)))
 (rAsk (Option.isSome (loS TT (TOrc.runs t106) (HSc 6) lp6 out6 (St.mk (mkT 0 85 [(4, (AV.sh false 0 1 0 9)), (71, (AV.dat (D.list k z l))), (72, (AV.dat (D.int IntKind.i64 (((List.length l) : Nat) : Int)))), (73, (AV.dat (D.int IntKind.i64 (0 : Int))))]) (Mem.mk [(Option.some (Ent.row Mode.excl 1 [[(D.str (ByteArray.mk (List.toArray [119, 104, 121])))], [(D.str x74)], [(D.str (ByteArray.mk (List.toArray [110])))], [(D.str x75)], [(D.str (ByteArray.mk (List.toArray [109])))], [(D.str x76)], [(D.str (ByteArray.mk (List.toArray [100, 97, 116, 97])))], [(D.str x77)], [(D.str (ByteArray.mk (List.toArray [108, 105, 115, 116])))]]))] [] 0))))
 (rGet (loS TT (TOrc.runs t106) (HSc 6) lp6 out6 (St.mk (mkT 0 85 [(4, (AV.sh false 0 1 0 9)), (71, (AV.dat (D.list k z l))), (72, (AV.dat (D.int IntKind.i64 (((List.length l) : Nat) : Int)))), (73, (AV.dat (D.int IntKind.i64 (0 : Int))))]) (Mem.mk [(Option.some (Ent.row Mode.excl 1 [[(D.str (ByteArray.mk (List.toArray [119, 104, 121])))], [(D.str x74)], [(D.str (ByteArray.mk (List.toArray [110])))], [(D.str x75)], [(D.str (ByteArray.mk (List.toArray [109])))], [(D.str x76)], [(D.str (ByteArray.mk (List.toArray [100, 97, 116, 97])))], [(D.str x77)], [(D.str (ByteArray.mk (List.toArray [108, 105, 115, 116])))]]))] [] 0))) fun x78 =>
 (rGet (fnS (fun (zs : ByteArray) => ((AV.dat (D.str zs)), [])) (S16n [(AV.dat (D.list LK.any 1 (List.take (List.length x78) (List.drop 0 x78)))), (AV.dat (D.str (ByteArray.mk (List.toArray [32]))))] [])) fun x79 =>
 (some ((AV.tup [(AV.dat (D.str x79)), (AV.dat (D.int IntKind.i64 (0 : Int)))]), []))
 )
 )
 (rGet (loS TT (TOrc.runs t106) (HSc 6) lp6 out6t (St.mk (mkT 0 85 [(4, (AV.sh false 0 1 0 9)), (71, (AV.dat (D.list k z l))), (72, (AV.dat (D.int IntKind.i64 (((List.length l) : Nat) : Int)))), (73, (AV.dat (D.int IntKind.i64 (0 : Int))))]) (Mem.mk [(Option.some (Ent.row Mode.excl 1 [[(D.str (ByteArray.mk (List.toArray [119, 104, 121])))], [(D.str x74)], [(D.str (ByteArray.mk (List.toArray [110])))], [(D.str x75)], [(D.str (ByteArray.mk (List.toArray [109])))], [(D.str x76)], [(D.str (ByteArray.mk (List.toArray [100, 97, 116, 97])))], [(D.str x77)], [(D.str (ByteArray.mk (List.toArray [108, 105, 115, 116])))]]))] [] 0))) fun x80 =>
 (rGet (fnS (fun (zs : ByteArray) => ((AV.dat (D.str zs)), [])) (S16n [(AV.dat (D.list LK.full 1 (List.take (List.length x80) (List.drop 0 x80)))), (AV.dat (D.str (ByteArray.mk (List.toArray [32]))))] [])) fun x81 =>
 (some ((AV.tup [(AV.dat (D.str x81)), (AV.dat (D.int IntKind.i64 (0 : Int)))]), []))
 )
 )
 )
 (rAsk (Option.isSome (loS TT (TOrc.runs t106) (HSc 6) lp6 out6 (St.mk (mkT 0 85 [(4, (AV.sh false 0 1 0 8)), (71, (AV.dat (D.list k z l))), (72, (AV.dat (D.int IntKind.i64 (((List.length l) : Nat) : Int)))), (73, (AV.dat (D.int IntKind.i64 (0 : Int))))]) (Mem.mk [(Option.some (Ent.row Mode.excl 1 [[(D.str (ByteArray.mk (List.toArray [119, 104, 121])))], [(D.str x74)], [(D.str (ByteArray.mk (List.toArray [110])))], [(D.str x75)], [(D.str (ByteArray.mk (List.toArray [109])))], [(D.str x76)], [(D.str (ByteArray.mk (List.toArray [100, 97, 116, 97])))], [(D.str x77)]]))] [] 0))))
 (rGet (loS TT (TOrc.runs t106) (HSc 6) lp6 out6 (St.mk (mkT 0 85 [(4, (AV.sh false 0 1 0 8)), (71, (AV.dat (D.list k z l))), (72, (AV.dat (D.int IntKind.i64 (((List.length l) : Nat) : Int)))), (73, (AV.dat (D.int IntKind.i64 (0 : Int))))]) (Mem.mk [(Option.some (Ent.row Mode.excl 1 [[(D.str (ByteArray.mk (List.toArray [119, 104, 121])))], [(D.str x74)], [(D.str (ByteArray.mk (List.toArray [110])))], [(D.str x75)], [(D.str (ByteArray.mk (List.toArray [109])))], [(D.str x76)], [(D.str (ByteArray.mk (List.toArray [100, 97, 116, 97])))], [(D.str x77)]]))] [] 0))) fun x82 =>
 (rGet (fnS (fun (zs : ByteArray) => ((AV.dat (D.str zs)), [])) (S16n [(AV.dat (D.list LK.any 1 (List.take (List.length x82) (List.drop 0 x82)))), (AV.dat (D.str (ByteArray.mk (List.toArray [32]))))] [])) fun x83 =>
 (some ((AV.tup [(AV.dat (D.str x83)), (AV.dat (D.int IntKind.i64 (0 : Int)))]), []))
 )
 )
 (rGet (loS TT (TOrc.runs t106) (HSc 6) lp6 out6t (St.mk (mkT 0 85 [(4, (AV.sh false 0 1 0 8)), (71, (AV.dat (D.list k z l))), (72, (AV.dat (D.int IntKind.i64 (((List.length l) : Nat) : Int)))), (73, (AV.dat (D.int IntKind.i64 (0 : Int))))]) (Mem.mk [(Option.some (Ent.row Mode.excl 1 [[(D.str (ByteArray.mk (List.toArray [119, 104, 121])))], [(D.str x74)], [(D.str (ByteArray.mk (List.toArray [110])))], [(D.str x75)], [(D.str (ByteArray.mk (List.toArray [109])))], [(D.str x76)], [(D.str (ByteArray.mk (List.toArray [100, 97, 116, 97])))], [(D.str x77)]]))] [] 0))) fun x84 =>
 (rGet (fnS (fun (zs : ByteArray) => ((AV.dat (D.str zs)), [])) (S16n [(AV.dat (D.list LK.full 1 (List.take (List.length x84) (List.drop 0 x84)))), (AV.dat (D.str (ByteArray.mk (List.toArray [32]))))] [])) fun x85 =>
 (some ((AV.tup [(AV.dat (D.str x85)), (AV.dat (D.int IntKind.i64 (0 : Int)))]), []))
 )
 )
 )
 )
 )
 (rAsk (decide ((((List.length l) : Nat) : Int) > (0 : Int)))
 (rAsk (Option.isSome (loS TT (TOrc.runs t106) (HSc 6) lp6 out6 (St.mk (mkT 0 85 [(4, (AV.sh false 0 1 0 7)), (71, (AV.dat (D.list k z l))), (72, (AV.dat (D.int IntKind.i64 (((List.length l) : Nat) : Int)))), (73, (AV.dat (D.int IntKind.i64 (0 : Int))))]) (Mem.mk [(Option.some (Ent.row Mode.excl 1 [[(D.str (ByteArray.mk (List.toArray [119, 104, 121])))], [(D.str x74)], [(D.str (ByteArray.mk (List.toArray [110])))], [(D.str x75)], [(D.str (ByteArray.mk (List.toArray [109])))], [(D.str x76)], [(D.str (ByteArray.mk (List.toArray [108, 105, 115, 116])))]]))] [] 0))))
 (rGet (loS TT (TOrc.runs t106) (HSc 6) lp6 out6 (St.mk (mkT 0 85 [(4, (AV.sh false 0 1 0 7)), (71, (AV.dat (D.list k z l))), (72, (AV.dat (D.int IntKind.i64 (((List.length l) : Nat) : Int)))), (73, (AV.dat (D.int IntKind.i64 (0 : Int))))]) (Mem.mk [(Option.some (Ent.row Mode.excl 1 [[(D.str (ByteArray.mk (List.toArray [119, 104, 121])))], [(D.str x74)], [(D.str (ByteArray.mk (List.toArray [110])))], [(D.str x75)], [(D.str (ByteArray.mk (List.toArray [109])))], [(D.str x76)], [(D.str (ByteArray.mk (List.toArray [108, 105, 115, 116])))]]))] [] 0))) fun x86 =>
 (rGet (fnS (fun (zs : ByteArray) => ((AV.dat (D.str zs)), [])) (S16n [(AV.dat (D.list LK.any 1 (List.take (List.length x86) (List.drop 0 x86)))), (AV.dat (D.str (ByteArray.mk (List.toArray [32]))))] [])) fun x87 =>
 (some ((AV.tup [(AV.dat (D.str x87)), (AV.dat (D.int IntKind.i64 (0 : Int)))]), []))
 )
 )
 (rGet (loS TT (TOrc.runs t106) (HSc 6) lp6 out6t (St.mk (mkT 0 85 [(4, (AV.sh false 0 1 0 7)), (71, (AV.dat (D.list k z l))), (72, (AV.dat (D.int IntKind.i64 (((List.length l) : Nat) : Int)))), (73, (AV.dat (D.int IntKind.i64 (0 : Int))))]) (Mem.mk [(Option.some (Ent.row Mode.excl 1 [[(D.str (ByteArray.mk (List.toArray [119, 104, 121])))], [(D.str x74)], [(D.str (ByteArray.mk (List.toArray [110])))], [(D.str x75)], [(D.str (ByteArray.mk (List.toArray [109])))], [(D.str x76)], [(D.str (ByteArray.mk (List.toArray [108, 105, 115, 116])))]]))] [] 0))) fun x88 =>
 (rGet (fnS (fun (zs : ByteArray) => ((AV.dat (D.str zs)), [])) (S16n [(AV.dat (D.list LK.full 1 (List.take (List.length x88) (List.drop 0 x88)))), (AV.dat (D.str (ByteArray.mk (List.toArray [32]))))] [])) fun x89 =>
 (some ((AV.tup [(AV.dat (D.str x89)), (AV.dat (D.int IntKind.i64 (0 : Int)))]), []))
 )
 )
 )
 (rAsk (Option.isSome (loS TT (TOrc.runs t106) (HSc 6) lp6 out6 (St.mk (mkT 0 85 [(4, (AV.sh false 0 1 0 6)), (71, (AV.dat (D.list k z l))), (72, (AV.dat (D.int IntKind.i64 (((List.length l) : Nat) : Int)))), (73, (AV.dat (D.int IntKind.i64 (0 : Int))))]) (Mem.mk [(Option.some (Ent.row Mode.excl 1 [[(D.str (ByteArray.mk (List.toArray [119, 104, 121])))], [(D.str x74)], [(D.str (ByteArray.mk (List.toArray [110])))], [(D.str x75)], [(D.str (ByteArray.mk (List.toArray [109])))], [(D.str x76)]]))] [] 0))))
 (rGet (loS TT (TOrc.runs t106) (HSc 6) lp6 out6 (St.mk (mkT 0 85 [(4, (AV.sh false 0 1 0 6)), (71, (AV.dat (D.list k z l))), (72, (AV.dat (D.int IntKind.i64 (((List.length l) : Nat) : Int)))), (73, (AV.dat (D.int IntKind.i64 (0 : Int))))]) (Mem.mk [(Option.some (Ent.row Mode.excl 1 [[(D.str (ByteArray.mk (List.toArray [119, 104, 121])))], [(D.str x74)], [(D.str (ByteArray.mk (List.toArray [110])))], [(D.str x75)], [(D.str (ByteArray.mk (List.toArray [109])))], [(D.str x76)]]))] [] 0))) fun x90 =>
 (rGet (fnS (fun (zs : ByteArray) => ((AV.dat (D.str zs)), [])) (S16n [(AV.dat (D.list LK.any 1 (List.take (List.length x90) (List.drop 0 x90)))), (AV.dat (D.str (ByteArray.mk (List.toArray [32]))))] [])) fun x91 =>
 (some ((AV.tup [(AV.dat (D.str x91)), (AV.dat (D.int IntKind.i64 (0 : Int)))]), []))
 )
 )
 (rGet (loS TT (TOrc.runs t106) (HSc 6) lp6 out6t (St.mk (mkT 0 85 [(4, (AV.sh false 0 1 0 6)), (71, (AV.dat (D.list k z l))), (72, (AV.dat (D.int IntKind.i64 (((List.length l) : Nat) : Int)))), (73, (AV.dat (D.int IntKind.i64 (0 : Int))))]) (Mem.mk [(Option.some (Ent.row Mode.excl 1 [[(D.str (ByteArray.mk (List.toArray [119, 104, 121])))], [(D.str x74)], [(D.str (ByteArray.mk (List.toArray [110])))], [(D.str x75)], [(D.str (ByteArray.mk (List.toArray [109])))], [(D.str x76)]]))] [] 0))) fun x92 =>
 (rGet (fnS (fun (zs : ByteArray) => ((AV.dat (D.str zs)), [])) (S16n [(AV.dat (D.list LK.full 1 (List.take (List.length x92) (List.drop 0 x92)))), (AV.dat (D.str (ByteArray.mk (List.toArray [32]))))] [])) fun x93 =>
 (some ((AV.tup [(AV.dat (D.str x93)), (AV.dat (D.int IntKind.i64 (0 : Int)))]), []))
 )
 )
 )
 )
 )
 )
 (rAsk (!((ByteArray.toList d) == []))
 (rGet (fnS (fun (zs : ByteArray) => ((AV.dat (D.str zs)), [])) (P7 [(AV.dat (D.str d))] [])) fun x94 =>
 (rAsk (decide ((((List.length l) : Nat) : Int) > (0 : Int)))
 (rAsk (Option.isSome (loS TT (TOrc.runs t106) (HSc 6) lp6 out6 (St.mk (mkT 0 85 [(4, (AV.sh false 0 1 0 7)), (71, (AV.dat (D.list k z l))), (72, (AV.dat (D.int IntKind.i64 (((List.length l) : Nat) : Int)))), (73, (AV.dat (D.int IntKind.i64 (0 : Int))))]) (Mem.mk [(Option.some (Ent.row Mode.excl 1 [[(D.str (ByteArray.mk (List.toArray [119, 104, 121])))], [(D.str x74)], [(D.str (ByteArray.mk (List.toArray [110])))], [(D.str x75)], [(D.str (ByteArray.mk (List.toArray [100, 97, 116, 97])))], [(D.str x94)], [(D.str (ByteArray.mk (List.toArray [108, 105, 115, 116])))]]))] [] 0))))
 (rGet (loS TT (TOrc.runs t106) (HSc 6) lp6 out6 (St.mk (mkT 0 85 [(4, (AV.sh false 0 1 0 7)), (71, (AV.dat (D.list k z l))), (72, (AV.dat (D.int IntKind.i64 (((List.length l) : Nat) : Int)))), (73, (AV.dat (D.int IntKind.i64 (0 : Int))))]) (Mem.mk [(Option.some (Ent.row Mode.excl 1 [[(D.str (ByteArray.mk (List.toArray [119, 104, 121])))], [(D.str x74)], [(D.str (ByteArray.mk (List.toArray [110])))], [(D.str x75)], [(D.str (ByteArray.mk (List.toArray [100, 97, 116, 97])))], [(D.str x94)], [(D.str (ByteArray.mk (List.toArray [108, 105, 115, 116])))]]))] [] 0))) fun x95 =>
 (rGet (fnS (fun (zs : ByteArray) => ((AV.dat (D.str zs)), [])) (S16n [(AV.dat (D.list LK.any 1 (List.take (List.length x95) (List.drop 0 x95)))), (AV.dat (D.str (ByteArray.mk (List.toArray [32]))))] [])) fun x96 =>
 (some ((AV.tup [(AV.dat (D.str x96)), (AV.dat (D.int IntKind.i64 (0 : Int)))]), []))
 )
 )
 (rGet (loS TT (TOrc.runs t106) (HSc 6) lp6 out6t (St.mk (mkT 0 85 [(4, (AV.sh false 0 1 0 7)), (71, (AV.dat (D.list k z l))), (72, (AV.dat (D.int IntKind.i64 (((List.length l) : Nat) : Int)))), (73, (AV.dat (D.int IntKind.i64 (0 : Int))))]) (Mem.mk [(Option.some (Ent.row Mode.excl 1 [[(D.str (ByteArray.mk (List.toArray [119, 104, 121])))], [(D.str x74)], [(D.str (ByteArray.mk (List.toArray [110])))], [(D.str x75)], [(D.str (ByteArray.mk (List.toArray [100, 97, 116, 97])))], [(D.str x94)], [(D.str (ByteArray.mk (List.toArray [108, 105, 115, 116])))]]))] [] 0))) fun x97 =>
 (rGet (fnS (fun (zs : ByteArray) => ((AV.dat (D.str zs)), [])) (S16n [(AV.dat (D.list LK.full 1 (List.take (List.length x97) (List.drop 0 x97)))), (AV.dat (D.str (ByteArray.mk (List.toArray [32]))))] [])) fun x98 =>
 (some ((AV.tup [(AV.dat (D.str x98)), (AV.dat (D.int IntKind.i64 (0 : Int)))]), []))
 )
 )
 )
 (rAsk (Option.isSome (loS TT (TOrc.runs t106) (HSc 6) lp6 out6 (St.mk (mkT 0 85 [(4, (AV.sh false 0 1 0 6)), (71, (AV.dat (D.list k z l))), (72, (AV.dat (D.int IntKind.i64 (((List.length l) : Nat) : Int)))), (73, (AV.dat (D.int IntKind.i64 (0 : Int))))]) (Mem.mk [(Option.some (Ent.row Mode.excl 1 [[(D.str (ByteArray.mk (List.toArray [119, 104, 121])))], [(D.str x74)], [(D.str (ByteArray.mk (List.toArray [110])))], [(D.str x75)], [(D.str (ByteArray.mk (List.toArray [100, 97, 116, 97])))], [(D.str x94)]]))] [] 0))))
 (rGet (loS TT (TOrc.runs t106) (HSc 6) lp6 out6 (St.mk (mkT 0 85 [(4, (AV.sh false 0 1 0 6)), (71, (AV.dat (D.list k z l))), (72, (AV.dat (D.int IntKind.i64 (((List.length l) : Nat) : Int)))), (73, (AV.dat (D.int IntKind.i64 (0 : Int))))]) (Mem.mk [(Option.some (Ent.row Mode.excl 1 [[(D.str (ByteArray.mk (List.toArray [119, 104, 121])))], [(D.str x74)], [(D.str (ByteArray.mk (List.toArray [110])))], [(D.str x75)], [(D.str (ByteArray.mk (List.toArray [100, 97, 116, 97])))], [(D.str x94)]]))] [] 0))) fun x99 =>
 (rGet (fnS (fun (zs : ByteArray) => ((AV.dat (D.str zs)), [])) (S16n [(AV.dat (D.list LK.any 1 (List.take (List.length x99) (List.drop 0 x99)))), (AV.dat (D.str (ByteArray.mk (List.toArray [32]))))] [])) fun x100 =>
 (some ((AV.tup [(AV.dat (D.str x100)), (AV.dat (D.int IntKind.i64 (0 : Int)))]), []))
 )
 )
 (rGet (loS TT (TOrc.runs t106) (HSc 6) lp6 out6t (St.mk (mkT 0 85 [(4, (AV.sh false 0 1 0 6)), (71, (AV.dat (D.list k z l))), (72, (AV.dat (D.int IntKind.i64 (((List.length l) : Nat) : Int)))), (73, (AV.dat (D.int IntKind.i64 (0 : Int))))]) (Mem.mk [(Option.some (Ent.row Mode.excl 1 [[(D.str (ByteArray.mk (List.toArray [119, 104, 121])))], [(D.str x74)], [(D.str (ByteArray.mk (List.toArray [110])))], [(D.str x75)], [(D.str (ByteArray.mk (List.toArray [100, 97, 116, 97])))], [(D.str x94)]]))] [] 0))) fun x101 =>
 (rGet (fnS (fun (zs : ByteArray) => ((AV.dat (D.str zs)), [])) (S16n [(AV.dat (D.list LK.full 1 (List.take (List.length x101) (List.drop 0 x101)))), (AV.dat (D.str (ByteArray.mk (List.toArray [32]))))] [])) fun x102 =>
 (some ((AV.tup [(AV.dat (D.str x102)), (AV.dat (D.int IntKind.i64 (0 : Int)))]), []))
 )
 )
 )
 )
 )
 (rAsk (decide ((((List.length l) : Nat) : Int) > (0 : Int)))
 (rAsk (Option.isSome (loS TT (TOrc.runs t106) (HSc 6) lp6 out6 (St.mk (mkT 0 85 [(4, (AV.sh false 0 1 0 5)), (71, (AV.dat (D.list k z l))), (72, (AV.dat (D.int IntKind.i64 (((List.length l) : Nat) : Int)))), (73, (AV.dat (D.int IntKind.i64 (0 : Int))))]) (Mem.mk [(Option.some (Ent.row Mode.excl 1 [[(D.str (ByteArray.mk (List.toArray [119, 104, 121])))], [(D.str x74)], [(D.str (ByteArray.mk (List.toArray [110])))], [(D.str x75)], [(D.str (ByteArray.mk (List.toArray [108, 105, 115, 116])))]]))] [] 0))))
 (rGet (loS TT (TOrc.runs t106) (HSc 6) lp6 out6 (St.mk (mkT 0 85 [(4, (AV.sh false 0 1 0 5)), (71, (AV.dat (D.list k z l))), (72, (AV.dat (D.int IntKind.i64 (((List.length l) : Nat) : Int)))), (73, (AV.dat (D.int IntKind.i64 (0 : Int))))]) (Mem.mk [(Option.some (Ent.row Mode.excl 1 [[(D.str (ByteArray.mk (List.toArray [119, 104, 121])))], [(D.str x74)], [(D.str (ByteArray.mk (List.toArray [110])))], [(D.str x75)], [(D.str (ByteArray.mk (List.toArray [108, 105, 115, 116])))]]))] [] 0))) fun x103 =>
 (rGet (fnS (fun (zs : ByteArray) => ((AV.dat (D.str zs)), [])) (S16n [(AV.dat (D.list LK.any 1 (List.take (List.length x103) (List.drop 0 x103)))), (AV.dat (D.str (ByteArray.mk (List.toArray [32]))))] [])) fun x104 =>
 (some ((AV.tup [(AV.dat (D.str x104)), (AV.dat (D.int IntKind.i64 (0 : Int)))]), []))
 )
 )
 (rGet (loS TT (TOrc.runs t106) (HSc 6) lp6 out6t (St.mk (mkT 0 85 [(4, (AV.sh false 0 1 0 5)), (71, (AV.dat (D.list k z l))), (72, (AV.dat (D.int IntKind.i64 (((List.length l) : Nat) : Int)))), (73, (AV.dat (D.int IntKind.i64 (0 : Int))))]) (Mem.mk [(Option.some (Ent.row Mode.excl 1 [[(D.str (ByteArray.mk (List.toArray [119, 104, 121])))], [(D.str x74)], [(D.str (ByteArray.mk (List.toArray [110])))], [(D.str x75)], [(D.str (ByteArray.mk (List.toArray [108, 105, 115, 116])))]]))] [] 0))) fun x105 =>
 (rGet (fnS (fun (zs : ByteArray) => ((AV.dat (D.str zs)), [])) (S16n [(AV.dat (D.list LK.full 1 (List.take (List.length x105) (List.drop 0 x105)))), (AV.dat (D.str (ByteArray.mk (List.toArray [32]))))] [])) fun x106 =>
 (some ((AV.tup [(AV.dat (D.str x106)), (AV.dat (D.int IntKind.i64 (0 : Int)))]), []))
 )
 )
 )
 (rAsk (Option.isSome (loS TT (TOrc.runs t106) (HSc 6) lp6 out6 (St.mk (mkT 0 85 [(4, (AV.sh false 0 1 0 4)), (71, (AV.dat (D.list k z l))), (72, (AV.dat (D.int IntKind.i64 (((List.length l) : Nat) : Int)))), (73, (AV.dat (D.int IntKind.i64 (0 : Int))))]) (Mem.mk [(Option.some (Ent.row Mode.excl 1 [[(D.str (ByteArray.mk (List.toArray [119, 104, 121])))], [(D.str x74)], [(D.str (ByteArray.mk (List.toArray [110])))], [(D.str x75)]]))] [] 0))))
 (rGet (loS TT (TOrc.runs t106) (HSc 6) lp6 out6 (St.mk (mkT 0 85 [(4, (AV.sh false 0 1 0 4)), (71, (AV.dat (D.list k z l))), (72, (AV.dat (D.int IntKind.i64 (((List.length l) : Nat) : Int)))), (73, (AV.dat (D.int IntKind.i64 (0 : Int))))]) (Mem.mk [(Option.some (Ent.row Mode.excl 1 [[(D.str (ByteArray.mk (List.toArray [119, 104, 121])))], [(D.str x74)], [(D.str (ByteArray.mk (List.toArray [110])))], [(D.str x75)]]))] [] 0))) fun x107 =>
 (rGet (fnS (fun (zs : ByteArray) => ((AV.dat (D.str zs)), [])) (S16n [(AV.dat (D.list LK.any 1 (List.take (List.length x107) (List.drop 0 x107)))), (AV.dat (D.str (ByteArray.mk (List.toArray [32]))))] [])) fun x108 =>
 (some ((AV.tup [(AV.dat (D.str x108)), (AV.dat (D.int IntKind.i64 (0 : Int)))]), []))
 )
 )
 (rGet (loS TT (TOrc.runs t106) (HSc 6) lp6 out6t (St.mk (mkT 0 85 [(4, (AV.sh false 0 1 0 4)), (71, (AV.dat (D.list k z l))), (72, (AV.dat (D.int IntKind.i64 (((List.length l) : Nat) : Int)))), (73, (AV.dat (D.int IntKind.i64 (0 : Int))))]) (Mem.mk [(Option.some (Ent.row Mode.excl 1 [[(D.str (ByteArray.mk (List.toArray [119, 104, 121])))], [(D.str x74)], [(D.str (ByteArray.mk (List.toArray [110])))], [(D.str x75)]]))] [] 0))) fun x109 =>
 (rGet (fnS (fun (zs : ByteArray) => ((AV.dat (D.str zs)), [])) (S16n [(AV.dat (D.list LK.full 1 (List.take (List.length x109) (List.drop 0 x109)))), (AV.dat (D.str (ByteArray.mk (List.toArray [32]))))] [])) fun x110 =>
 (some ((AV.tup [(AV.dat (D.str x110)), (AV.dat (D.int IntKind.i64 (0 : Int)))]), []))
 )
 )
 )
 )
 )
 )
 )
 (rAsk (m != (0 : Int))
 (rGet (fnS (fun (zs : ByteArray) => ((AV.dat (D.str zs)), [])) (S14 [(AV.dat (D.int IntKind.i64 m)), (AV.dat (D.int IntKind.i64 (10 : Int)))] [])) fun x111 =>
 (rAsk (!((ByteArray.toList d) == []))
 (rGet (fnS (fun (zs : ByteArray) => ((AV.dat (D.str zs)), [])) (P7 [(AV.dat (D.str d))] [])) fun x112 =>
 (rAsk (decide ((((List.length l) : Nat) : Int) > (0 : Int)))
 (rAsk (Option.isSome (loS TT (TOrc.runs t106) (HSc 6) lp6 out6 (St.mk (mkT 0 85 [(4, (AV.sh false 0 1 0 7)), (71, (AV.dat (D.list k z l))), (72, (AV.dat (D.int IntKind.i64 (((List.length l) : Nat) : Int)))), (73, (AV.dat (D.int IntKind.i64 (0 : Int))))]) (Mem.mk [(Option.some (Ent.row Mode.excl 1 [[(D.str (ByteArray.mk (List.toArray [119, 104, 121])))], [(D.str x74)], [(D.str (ByteArray.mk (List.toArray [109])))], [(D.str x111)], [(D.str (ByteArray.mk (List.toArray [100, 97, 116, 97])))], [(D.str x112)], [(D.str (ByteArray.mk (List.toArray [108, 105, 115, 116])))]]))] [] 0))))
 (rGet (loS TT (TOrc.runs t106) (HSc 6) lp6 out6 (St.mk (mkT 0 85 [(4, (AV.sh false 0 1 0 7)), (71, (AV.dat (D.list k z l))), (72, (AV.dat (D.int IntKind.i64 (((List.length l) : Nat) : Int)))), (73, (AV.dat (D.int IntKind.i64 (0 : Int))))]) (Mem.mk [(Option.some (Ent.row Mode.excl 1 [[(D.str (ByteArray.mk (List.toArray [119, 104, 121])))], [(D.str x74)], [(D.str (ByteArray.mk (List.toArray [109])))], [(D.str x111)], [(D.str (ByteArray.mk (List.toArray [100, 97, 116, 97])))], [(D.str x112)], [(D.str (ByteArray.mk (List.toArray [108, 105, 115, 116])))]]))] [] 0))) fun x113 =>
 (rGet (fnS (fun (zs : ByteArray) => ((AV.dat (D.str zs)), [])) (S16n [(AV.dat (D.list LK.any 1 (List.take (List.length x113) (List.drop 0 x113)))), (AV.dat (D.str (ByteArray.mk (List.toArray [32]))))] [])) fun x114 =>
 (some ((AV.tup [(AV.dat (D.str x114)), (AV.dat (D.int IntKind.i64 (0 : Int)))]), []))
 )
 )
 (rGet (loS TT (TOrc.runs t106) (HSc 6) lp6 out6t (St.mk (mkT 0 85 [(4, (AV.sh false 0 1 0 7)), (71, (AV.dat (D.list k z l))), (72, (AV.dat (D.int IntKind.i64 (((List.length l) : Nat) : Int)))), (73, (AV.dat (D.int IntKind.i64 (0 : Int))))]) (Mem.mk [(Option.some (Ent.row Mode.excl 1 [[(D.str (ByteArray.mk (List.toArray [119, 104, 121])))], [(D.str x74)], [(D.str (ByteArray.mk (List.toArray [109])))], [(D.str x111)], [(D.str (ByteArray.mk (List.toArray [100, 97, 116, 97])))], [(D.str x112)], [(D.str (ByteArray.mk (List.toArray [108, 105, 115, 116])))]]))] [] 0))) fun x115 =>
 (rGet (fnS (fun (zs : ByteArray) => ((AV.dat (D.str zs)), [])) (S16n [(AV.dat (D.list LK.full 1 (List.take (List.length x115) (List.drop 0 x115)))), (AV.dat (D.str (ByteArray.mk (List.toArray [32]))))] [])) fun x116 =>
 (some ((AV.tup [(AV.dat (D.str x116)), (AV.dat (D.int IntKind.i64 (0 : Int)))]), []))
 )
 )
 )
 (rAsk (Option.isSome (loS TT (TOrc.runs t106) (HSc 6) lp6 out6 (St.mk (mkT 0 85 [(4, (AV.sh false 0 1 0 6)), (71, (AV.dat (D.list k z l))), (72, (AV.dat (D.int IntKind.i64 (((List.length l) : Nat) : Int)))), (73, (AV.dat (D.int IntKind.i64 (0 : Int))))]) (Mem.mk [(Option.some (Ent.row Mode.excl 1 [[(D.str (ByteArray.mk (List.toArray [119, 104, 121])))], [(D.str x74)], [(D.str (ByteArray.mk (List.toArray [109])))], [(D.str x111)], [(D.str (ByteArray.mk (List.toArray [100, 97, 116, 97])))], [(D.str x112)]]))] [] 0))))
 (rGet (loS TT (TOrc.runs t106) (HSc 6) lp6 out6 (St.mk (mkT 0 85 [(4, (AV.sh false 0 1 0 6)), (71, (AV.dat (D.list k z l))), (72, (AV.dat (D.int IntKind.i64 (((List.length l) : Nat) : Int)))), (73, (AV.dat (D.int IntKind.i64 (0 : Int))))]) (Mem.mk [(Option.some (Ent.row Mode.excl 1 [[(D.str (ByteArray.mk (List.toArray [119, 104, 121])))], [(D.str x74)], [(D.str (ByteArray.mk (List.toArray [109])))], [(D.str x111)], [(D.str (ByteArray.mk (List.toArray [100, 97, 116, 97])))], [(D.str x112)]]))] [] 0))) fun x117 =>
 (rGet (fnS (fun (zs : ByteArray) => ((AV.dat (D.str zs)), [])) (S16n [(AV.dat (D.list LK.any 1 (List.take (List.length x117) (List.drop 0 x117)))), (AV.dat (D.str (ByteArray.mk (List.toArray [32]))))] [])) fun x118 =>
 (some ((AV.tup [(AV.dat (D.str x118)), (AV.dat (D.int IntKind.i64 (0 : Int)))]), []))
 )
 )
 (rGet (loS TT (TOrc.runs t106) (HSc 6) lp6 out6t (St.mk (mkT 0 85 [(4, (AV.sh false 0 1 0 6)), (71, (AV.dat (D.list k z l))), (72, (AV.dat (D.int IntKind.i64 (((List.length l) : Nat) : Int)))), (73, (AV.dat (D.int IntKind.i64 (0 : Int))))]) (Mem.mk [(Option.some (Ent.row Mode.excl 1 [[(D.str (ByteArray.mk (List.toArray [119, 104, 121])))], [(D.str x74)], [(D.str (ByteArray.mk (List.toArray [109])))], [(D.str x111)], [(D.str (ByteArray.mk (List.toArray [100, 97, 116, 97])))], [(D.str x112)]]))] [] 0))) fun x119 =>
 (rGet (fnS (fun (zs : ByteArray) => ((AV.dat (D.str zs)), [])) (S16n [(AV.dat (D.list LK.full 1 (List.take (List.length x119) (List.drop 0 x119)))), (AV.dat (D.str (ByteArray.mk (List.toArray [32]))))] [])) fun x120 =>
 (some ((AV.tup [(AV.dat (D.str x120)), (AV.dat (D.int IntKind.i64 (0 : Int)))]), []))
 )
 )
 )
 )
 )
 (rAsk (decide ((((List.length l) : Nat) : Int) > (0 : Int)))
 (rAsk (Option.isSome (loS TT (TOrc.runs t106) (HSc 6) lp6 out6 (St.mk (mkT 0 85 [(4, (AV.sh false 0 1 0 5)), (71, (AV.dat (D.list k z l))), (72, (AV.dat (D.int IntKind.i64 (((List.length l) : Nat) : Int)))), (73, (AV.dat (D.int IntKind.i64 (0 : Int))))]) (Mem.mk [(Option.some (Ent.row Mode.excl 1 [[(D.str (ByteArray.mk (List.toArray [119, 104, 121])))], [(D.str x74)], [(D.str (ByteArray.mk (List.toArray [109])))], [(D.str x111)], [(D.str (ByteArray.mk (List.toArray [108, 105, 115, 116])))]]))] [] 0))))
 (rGet (loS TT (TOrc.runs t106) (HSc 6) lp6 out6 (St.mk (mkT 0 85 [(4, (AV.sh false 0 1 0 5)), (71, (AV.dat (D.list k z l))), (72, (AV.dat (D.int IntKind.i64 (((List.length l) : Nat) : Int)))), (73, (AV.dat (D.int IntKind.i64 (0 : Int))))]) (Mem.mk [(Option.some (Ent.row Mode.excl 1 [[(D.str (ByteArray.mk (List.toArray [119, 104, 121])))], [(D.str x74)], [(D.str (ByteArray.mk (List.toArray [109])))], [(D.str x111)], [(D.str (ByteArray.mk (List.toArray [108, 105, 115, 116])))]]))] [] 0))) fun x121 =>
 (rGet (fnS (fun (zs : ByteArray) => ((AV.dat (D.str zs)), [])) (S16n [(AV.dat (D.list LK.any 1 (List.take (List.length x121) (List.drop 0 x121)))), (AV.dat (D.str (ByteArray.mk (List.toArray [32]))))] [])) fun x122 =>
 (some ((AV.tup [(AV.dat (D.str x122)), (AV.dat (D.int IntKind.i64 (0 : Int)))]), []))
 )
 )
 (rGet (loS TT (TOrc.runs t106) (HSc 6) lp6 out6t (St.mk (mkT 0 85 [(4, (AV.sh false 0 1 0 5)), (71, (AV.dat (D.list k z l))), (72, (AV.dat (D.int IntKind.i64 (((List.length l) : Nat) : Int)))), (73, (AV.dat (D.int IntKind.i64 (0 : Int))))]) (Mem.mk [(Option.some (Ent.row Mode.excl 1 [[(D.str (ByteArray.mk (List.toArray [119, 104, 121])))], [(D.str x74)], [(D.str (ByteArray.mk (List.toArray [109])))], [(D.str x111)], [(D.str (ByteArray.mk (List.toArray [108, 105, 115, 116])))]]))] [] 0))) fun x123 =>
 (rGet (fnS (fun (zs : ByteArray) => ((AV.dat (D.str zs)), [])) (S16n [(AV.dat (D.list LK.full 1 (List.take (List.length x123) (List.drop 0 x123)))), (AV.dat (D.str (ByteArray.mk (List.toArray [32]))))] [])) fun x124 =>
 (some ((AV.tup [(AV.dat (D.str x124)), (AV.dat (D.int IntKind.i64 (0 : Int)))]), []))
 )
 )
 )
 (rAsk (Option.isSome (loS TT (TOrc.runs t106) (HSc 6) lp6 out6 (St.mk (mkT 0 85 [(4, (AV.sh false 0 1 0 4)), (71, (AV.dat (D.list k z l))), (72, (AV.dat (D.int IntKind.i64 (((List.length l) : Nat) : Int)))), (73, (AV.dat (D.int IntKind.i64 (0 : Int))))]) (Mem.mk [(Option.some (Ent.row Mode.excl 1 [[(D.str (ByteArray.mk (List.toArray [119, 104, 121])))], [(D.str x74)], [(D.str (ByteArray.mk (List.toArray [109])))], [(D.str x111)]]))] [] 0))))
 (rGet (loS TT (TOrc.runs t106) (HSc 6) lp6 out6 (St.mk (mkT 0 85 [(4, (AV.sh false 0 1 0 4)), (71, (AV.dat (D.list k z l))), (72, (AV.dat (D.int IntKind.i64 (((List.length l) : Nat) : Int)))), (73, (AV.dat (D.int IntKind.i64 (0 : Int))))]) (Mem.mk [(Option.some (Ent.row Mode.excl 1 [[(D.str (ByteArray.mk (List.toArray [119, 104, 121])))], [(D.str x74)], [(D.str (ByteArray.mk (List.toArray [109])))], [(D.str x111)]]))] [] 0))) fun x125 =>
 (rGet (fnS (fun (zs : ByteArray) => ((AV.dat (D.str zs)), [])) (S16n [(AV.dat (D.list LK.any 1 (List.take (List.length x125) (List.drop 0 x125)))), (AV.dat (D.str (ByteArray.mk (List.toArray [32]))))] [])) fun x126 =>
 (some ((AV.tup [(AV.dat (D.str x126)), (AV.dat (D.int IntKind.i64 (0 : Int)))]), []))
 )
 )
 (rGet (loS TT (TOrc.runs t106) (HSc 6) lp6 out6t (St.mk (mkT 0 85 [(4, (AV.sh false 0 1 0 4)), (71, (AV.dat (D.list k z l))), (72, (AV.dat (D.int IntKind.i64 (((List.length l) : Nat) : Int)))), (73, (AV.dat (D.int IntKind.i64 (0 : Int))))]) (Mem.mk [(Option.some (Ent.row Mode.excl 1 [[(D.str (ByteArray.mk (List.toArray [119, 104, 121])))], [(D.str x74)], [(D.str (ByteArray.mk (List.toArray [109])))], [(D.str x111)]]))] [] 0))) fun x127 =>
 (rGet (fnS (fun (zs : ByteArray) => ((AV.dat (D.str zs)), [])) (S16n [(AV.dat (D.list LK.full 1 (List.take (List.length x127) (List.drop 0 x127)))), (AV.dat (D.str (ByteArray.mk (List.toArray [32]))))] [])) fun x128 =>
 (some ((AV.tup [(AV.dat (D.str x128)), (AV.dat (D.int IntKind.i64 (0 : Int)))]), []))
 )
 )
 )
 )
 )
 )
 (rAsk (!((ByteArray.toList d) == []))
 (rGet (fnS (fun (zs : ByteArray) => ((AV.dat (D.str zs)), [])) (P7 [(AV.dat (D.str d))] [])) fun x129 =>
 (rAsk (decide ((((List.length l) : Nat) : Int) > (0 : Int)))
 (rAsk (Option.isSome (loS TT (TOrc.runs t106) (HSc 6) lp6 out6 (St.mk (mkT 0 85 [(4, (AV.sh false 0 1 0 5)), (71, (AV.dat (D.list k z l))), (72, (AV.dat (D.int IntKind.i64 (((List.length l) : Nat) : Int)))), (73, (AV.dat (D.int IntKind.i64 (0 : Int))))]) (Mem.mk [(Option.some (Ent.row Mode.excl 1 [[(D.str (ByteArray.mk (List.toArray [119, 104, 121])))], [(D.str x74)], [(D.str (ByteArray.mk (List.toArray [100, 97, 116, 97])))], [(D.str x129)], [(D.str (ByteArray.mk (List.toArray [108, 105, 115, 116])))]]))] [] 0))))
 (rGet (loS TT (TOrc.runs t106) (HSc 6) lp6 out6 (St.mk (mkT 0 85 [(4, (AV.sh false 0 1 0 5)), (71, (AV.dat (D.list k z l))), (72, (AV.dat (D.int IntKind.i64 (((List.length l) : Nat) : Int)))), (73, (AV.dat (D.int IntKind.i64 (0 : Int))))]) (Mem.mk [(Option.some (Ent.row Mode.excl 1 [[(D.str (ByteArray.mk (List.toArray [119, 104, 121])))], [(D.str x74)], [(D.str (ByteArray.mk (List.toArray [100, 97, 116, 97])))], [(D.str x129)], [(D.str (ByteArray.mk (List.toArray [108, 105, 115, 116])))]]))] [] 0))) fun x130 =>
 (rGet (fnS (fun (zs : ByteArray) => ((AV.dat (D.str zs)), [])) (S16n [(AV.dat (D.list LK.any 1 (List.take (List.length x130) (List.drop 0 x130)))), (AV.dat (D.str (ByteArray.mk (List.toArray [32]))))] [])) fun x131 =>
 (some ((AV.tup [(AV.dat (D.str x131)), (AV.dat (D.int IntKind.i64 (0 : Int)))]), []))
 )
 )
 (rGet (loS TT (TOrc.runs t106) (HSc 6) lp6 out6t (St.mk (mkT 0 85 [(4, (AV.sh false 0 1 0 5)), (71, (AV.dat (D.list k z l))), (72, (AV.dat (D.int IntKind.i64 (((List.length l) : Nat) : Int)))), (73, (AV.dat (D.int IntKind.i64 (0 : Int))))]) (Mem.mk [(Option.some (Ent.row Mode.excl 1 [[(D.str (ByteArray.mk (List.toArray [119, 104, 121])))], [(D.str x74)], [(D.str (ByteArray.mk (List.toArray [100, 97, 116, 97])))], [(D.str x129)], [(D.str (ByteArray.mk (List.toArray [108, 105, 115, 116])))]]))] [] 0))) fun x132 =>
 (rGet (fnS (fun (zs : ByteArray) => ((AV.dat (D.str zs)), [])) (S16n [(AV.dat (D.list LK.full 1 (List.take (List.length x132) (List.drop 0 x132)))), (AV.dat (D.str (ByteArray.mk (List.toArray [32]))))] [])) fun x133 =>
 (some ((AV.tup [(AV.dat (D.str x133)), (AV.dat (D.int IntKind.i64 (0 : Int)))]), []))
 )
 )
 )
 (rAsk (Option.isSome (loS TT (TOrc.runs t106) (HSc 6) lp6 out6 (St.mk (mkT 0 85 [(4, (AV.sh false 0 1 0 4)), (71, (AV.dat (D.list k z l))), (72, (AV.dat (D.int IntKind.i64 (((List.length l) : Nat) : Int)))), (73, (AV.dat (D.int IntKind.i64 (0 : Int))))]) (Mem.mk [(Option.some (Ent.row Mode.excl 1 [[(D.str (ByteArray.mk (List.toArray [119, 104, 121])))], [(D.str x74)], [(D.str (ByteArray.mk (List.toArray [100, 97, 116, 97])))], [(D.str x129)]]))] [] 0))))
 (rGet (loS TT (TOrc.runs t106) (HSc 6) lp6 out6 (St.mk (mkT 0 85 [(4, (AV.sh false 0 1 0 4)), (71, (AV.dat (D.list k z l))), (72, (AV.dat (D.int IntKind.i64 (((List.length l) : Nat) : Int)))), (73, (AV.dat (D.int IntKind.i64 (0 : Int))))]) (Mem.mk [(Option.some (Ent.row Mode.excl 1 [[(D.str (ByteArray.mk (List.toArray [119, 104, 121])))], [(D.str x74)], [(D.str (ByteArray.mk (List.toArray [100, 97, 116, 97])))], [(D.str x129)]]))] [] 0))) fun x134 =>
 (rGet (fnS (fun (zs : ByteArray) => ((AV.dat (D.str zs)), [])) (S16n [(AV.dat (D.list LK.any 1 (List.take (List.length x134) (List.drop 0 x134)))), (AV.dat (D.str (ByteArray.mk (List.toArray [32]))))] [])) fun x135 =>
 (some ((AV.tup [(AV.dat (D.str x135)), (AV.dat (D.int IntKind.i64 (0 : Int)))]), []))
 )
 )
 (rGet (loS TT (TOrc.runs t106) (HSc 6) lp6 out6t (St.mk (mkT 0 85 [(4, (AV.sh false 0 1 0 4)), (71, (AV.dat (D.list k z l))), (72, (AV.dat (D.int IntKind.i64 (((List.length l) : Nat) : Int)))), (73, (AV.dat (D.int IntKind.i64 (0 : Int))))]) (Mem.mk [(Option.some (Ent.row Mode.excl 1 [[(D.str (ByteArray.mk (List.toArray [119, 104, 121])))], [(D.str x74)], [(D.str (ByteArray.mk (List.toArray [100, 97, 116, 97])))], [(D.str x129)]]))] [] 0))) fun x136 =>
 (rGet (fnS (fun (zs : ByteArray) => ((AV.dat (D.str zs)), [])) (S16n [(AV.dat (D.list LK.full 1 (List.take (List.length x136) (List.drop 0 x136)))), (AV.dat (D.str (ByteArray.mk (List.toArray [32]))))] [])) fun x137 =>
 (some ((AV.tup [(AV.dat (D.str x137)), (AV.dat (D.int IntKind.i64 (0 : Int)))]), []))
 )
 )
 )
 )
 )
 (rAsk (decide ((((List.length l) : Nat) : Int) > (0 : Int)))
 (rAsk (Option.isSome (loS TT (TOrc.runs t106) (HSc 6) lp6 out6 (St.mk (mkT 0 85 [(4, (AV.sh false 0 1 0 3)), (71, (AV.dat (D.list k z l))), (72, (AV.dat (D.int IntKind.i64 (((List.length l) : Nat) : Int)))), (73, (AV.dat (D.int IntKind.i64 (0 : Int))))]) (Mem.mk [(Option.some (Ent.row Mode.excl 1 [[(D.str (ByteArray.mk (List.toArray [119, 104, 121])))], [(D.str x74)], [(D.str (ByteArray.mk (List.toArray [108, 105, 115, 116])))]]))] [] 0))))
 (rGet (loS TT (TOrc.runs t106) (HSc 6) lp6 out6 (St.mk (mkT 0 85 [(4, (AV.sh false 0 1 0 3)), (71, (AV.dat (D.list k z l))), (72, (AV.dat (D.int IntKind.i64 (((List.length l) : Nat) : Int)))), (73, (AV.dat (D.int IntKind.i64 (0 : Int))))]) (Mem.mk [(Option.some (Ent.row Mode.excl 1 [[(D.str (ByteArray.mk (List.toArray [119, 104, 121])))], [(D.str x74)], [(D.str (ByteArray.mk (List.toArray [108, 105, 115, 116])))]]))] [] 0))) fun x138 =>
 (rGet (fnS (fun (zs : ByteArray) => ((AV.dat (D.str zs)), [])) (S16n [(AV.dat (D.list LK.any 1 (List.take (List.length x138) (List.drop 0 x138)))), (AV.dat (D.str (ByteArray.mk (List.toArray [32]))))] [])) fun x139 =>
 (some ((AV.tup [(AV.dat (D.str x139)), (AV.dat (D.int IntKind.i64 (0 : Int)))]), []))
 )
 )
 (rGet (loS TT (TOrc.runs t106) (HSc 6) lp6 out6t (St.mk (mkT 0 85 [(4, (AV.sh false 0 1 0 3)), (71, (AV.dat (D.list k z l))), (72, (AV.dat (D.int IntKind.i64 (((List.length l) : Nat) : Int)))), (73, (AV.dat (D.int IntKind.i64 (0 : Int))))]) (Mem.mk [(Option.some (Ent.row Mode.excl 1 [[(D.str (ByteArray.mk (List.toArray [119, 104, 121])))], [(D.str x74)], [(D.str (ByteArray.mk (List.toArray [108, 105, 115, 116])))]]))] [] 0))) fun x140 =>
 (rGet (fnS (fun (zs : ByteArray) => ((AV.dat (D.str zs)), [])) (S16n [(AV.dat (D.list LK.full 1 (List.take (List.length x140) (List.drop 0 x140)))), (AV.dat (D.str (ByteArray.mk (List.toArray [32]))))] [])) fun x141 =>
 (some ((AV.tup [(AV.dat (D.str x141)), (AV.dat (D.int IntKind.i64 (0 : Int)))]), []))
 )
 )
 )
 (rAsk (Option.isSome (loS TT (TOrc.runs t106) (HSc 6) lp6 out6 (St.mk (mkT 0 85 [(4, (AV.sh true 0 1 0 2)), (71, (AV.dat (D.list k z l))), (72, (AV.dat (D.int IntKind.i64 (((List.length l) : Nat) : Int)))), (73, (AV.dat (D.int IntKind.i64 (0 : Int))))]) (Mem.mk [(Option.some (Ent.row Mode.excl 1 [[(D.str (ByteArray.mk (List.toArray [119, 104, 121])))], [(D.str x74)]]))] [] 0))))
 (rGet (loS TT (TOrc.runs t106) (HSc 6) lp6 out6 (St.mk (mkT 0 85 [(4, (AV.sh true 0 1 0 2)), (71, (AV.dat (D.list k z l))), (72, (AV.dat (D.int IntKind.i64 (((List.length l) : Nat) : Int)))), (73, (AV.dat (D.int IntKind.i64 (0 : Int))))]) (Mem.mk [(Option.some (Ent.row Mode.excl 1 [[(D.str (ByteArray.mk (List.toArray [119, 104, 121])))], [(D.str x74)]]))] [] 0))) fun x142 =>
 (rGet (fnS (fun (zs : ByteArray) => ((AV.dat (D.str zs)), [])) (S16n [(AV.dat (D.list LK.any 1 (List.take (List.length x142) (List.drop 0 x142)))), (AV.dat (D.str (ByteArray.mk (List.toArray [32]))))] [])) fun x143 =>
 (some ((AV.tup [(AV.dat (D.str x143)), (AV.dat (D.int IntKind.i64 (0 : Int)))]), []))
 )
 )
 (rGet (loS TT (TOrc.runs t106) (HSc 6) lp6 out6t (St.mk (mkT 0 85 [(4, (AV.sh true 0 1 0 2)), (71, (AV.dat (D.list k z l))), (72, (AV.dat (D.int IntKind.i64 (((List.length l) : Nat) : Int)))), (73, (AV.dat (D.int IntKind.i64 (0 : Int))))]) (Mem.mk [(Option.some (Ent.row Mode.excl 1 [[(D.str (ByteArray.mk (List.toArray [119, 104, 121])))], [(D.str x74)]]))] [] 0))) fun x144 =>
 (rGet (fnS (fun (zs : ByteArray) => ((AV.dat (D.str zs)), [])) (S16n [(AV.dat (D.list LK.full 1 (List.take (List.length x144) (List.drop 0 x144)))), (AV.dat (D.str (ByteArray.mk (List.toArray [32]))))] [])) fun x145 =>
 (some ((AV.tup [(AV.dat (D.str x145)), (AV.dat (D.int IntKind.i64 (0 : Int)))]), []))
 )
 )
 )
 )
 )
 )
 )
 )
 )
 )
 )
 )
  := by kernel_rfl
theorem rk6t_eq (k : LK) (z : Nat) (l r : Row) : (rk6t k z l r).ev =
 (rAsk (decide ((0 : Int) < (((List.length l) : Nat) : Int)))
 (rAsk ((decide (z = 1)) && (true && (decide ((0 : Int) < (((List.length l) : Nat) : Int)))))
 (rGet l[0]? fun x1 =>
 (rGet (List.head? (List.drop 0 x1)) fun x2 =>
 (rGet (fnS (fun (zs : ByteArray) => ((AV.dat (D.str zs)), [])) (S13 [(AV.dat x2)] [])) fun x3 =>
 (rAsk ((decide ((0 + (List.length r)) ≤ (List.length r))) && (fits (TI.mk TK.str 1 16 [(AV.dat (D.str (ByteArray.mk (List.toArray []))))] true) ((List.length r) + 1)))
 (some (Ex.norm, (St.mk (mkT 0 85 [(4, (AV.sh false 0 1 0 ((List.length r) + 1))), (71, (AV.dat (D.list k z l))), (72, (AV.dat (D.int IntKind.i64 (((List.length l) : Nat) : Int)))), (73, (AV.dat (D.int IntKind.i64 (1 : Int))))]) (Mem.mk [(Option.some (Ent.row Mode.excl 1 ((List.take (List.length r) (List.drop 0 r)) ++ [[(D.str x3)]])))] [] 0))))
 none
 )
 )
 )
 )
 none
 )
 (some ((Ex.exit 0), (St.mk (mkT 0 85 [(4, (AV.sh true 0 1 0 (List.length r)))]) (Mem.mk [(Option.some (Ent.row Mode.excl 1 r))] [] 0))))
 )
  := by kernel_rfl
theorem rk7_eq (why n m : Int) (d : ByteArray) (k : LK) (z : Nat) (l : Row) (s : ByteArray) (i : Int) : (rk7 why n m d k z l s i).ev =
 (rAsk (decide (i < (((List.length l) : Nat) : Int)))
 (rAsk (Nat.ble ((ByteArray.size s) + 1) 9223372036854775807)
 (rAsk ((decide (z = 1)) && ((decide ((0 : Int) ≤ i)) && (decide (i < (((List.length l) : Nat) : Int)))))
 (rGet l[(Int.toNat i)]? fun x1 =>
 (rGet (List.head? (List.drop 0 x1)) fun x2 =>
 (rGet (fnS (fun (zs : ByteArray) => ((AV.dat (D.str zs)), [])) (P118 [(AV.dat x2)] [])) fun x3 =>
 (rAsk (Nat.ble ((ByteArray.size (s ++ (ByteArray.mk (List.toArray [32])))) + (ByteArray.size x3)) 9223372036854775807)
 (some (Ex.norm, (St.mk (mkT 0 85 [(1, (AV.ptr (Ref.loc 0) 0)), (4, (AV.dat (D.str ((s ++ (ByteArray.mk (List.toArray [32]))) ++ x3)))), (5, (AV.dat (D.int IntKind.i64 (IntKind.wrap IntKind.i64 (i + (1 : Int))))))]) (Mem.mk [(Option.some (Ent.obj [(AV.dat (D.int IntKind.i64 why)), (AV.dat (D.int IntKind.i64 n)), (AV.dat (D.int IntKind.i64 m)), (AV.dat (D.str d)), (AV.dat (D.list k z l))]))] [] 0))))
 none
 )
 )
 )
 )
 none
 )
 none
 )
 (some ((Ex.exit 0), (St.mk (mkT 0 85 [(4, (AV.dat (D.str s)))]) (Mem.mk [] [] 0))))
 )
  := by kernel_rfl
theorem f7lt_eq (why n m : Int) (d : ByteArray) (k : LK) (z : Nat) (l : Row) : (f7lt why n m d k z l).ev =
 (rAsk (decide (why < (0 : Int)))
 (some ((AV.tup [(AV.dat (D.str (ByteArray.mk (List.toArray [])))), (AV.dat (D.int IntKind.i64 (6 : Int)))]), []))
 (rAsk (decide (why > (22 : Int)))
 (some ((AV.tup [(AV.dat (D.str (ByteArray.mk (List.toArray [])))), (AV.dat (D.int IntKind.i64 (6 : Int)))]), []))
 (rAsk (!((ByteArray.toList d) == []))
 (rGet (fnS (fun (b : Bool) => ((AV.dat (D.bool b)), [])) (P17 [(AV.dat (D.str d))] [])) fun x1 =>
 (rAsk (!x1)
 (some ((AV.tup [(AV.dat (D.str (ByteArray.mk (List.toArray [])))), (AV.dat (D.int IntKind.i64 (6 : Int)))]), []))
 (rAsk (decide ((((List.length l) : Nat) : Int) > (60 : Int)))
 (some ((AV.tup [(AV.dat (D.str (ByteArray.mk (List.toArray [])))), (AV.dat (D.int IntKind.i64 (6 : Int)))]), []))
 (rGet (fnS (fun (zs : ByteArray) => ((AV.dat (D.str zs)), [])) (P118 [(AV.dat (D.int IntKind.i64 why))] [])) fun x2 =>
 (rAsk (Nat.ble (4 + (ByteArray.size x2)) 9223372036854775807)
 (rAsk (n != (0 : Int))
 (rAsk (Nat.ble ((ByteArray.size ((ByteArray.mk (List.toArray [119, 104, 121, 32])) ++ x2)) + 3) 9223372036854775807)
 (rGet (fnS (fun (zs : ByteArray) => ((AV.dat (D.str zs)), [])) (P118 [(AV.dat (D.int IntKind.i64 n))] [])) fun x3 =>
 (rAsk (Nat.ble ((ByteArray.size (((ByteArray.mk (List.toArray [119, 104, 121, 32])) ++ x2) ++ (ByteArray.mk (List.toArray [32, 110, 32])))) + (ByteArray.size x3)) 9223372036854775807)
 (rAsk (m != (0 : Int))
 (rAsk (Nat.ble ((ByteArray.size ((((ByteArray.mk (List.toArray [119, 104, 121, 32])) ++ x2) ++ (ByteArray.mk (List.toArray [32, 110, 32]))) ++ x3)) + 3) 9223372036854775807)
 (rGet (fnS (fun (zs : ByteArray) => ((AV.dat (D.str zs)), [])) (P118 [(AV.dat (D.int IntKind.i64 m))] [])) fun x4 =>
 (rAsk (Nat.ble ((ByteArray.size (((((ByteArray.mk (List.toArray [119, 104, 121, 32])) ++ x2) ++ (ByteArray.mk (List.toArray [32, 110, 32]))) ++ x3) ++ (ByteArray.mk (List.toArray [32, 109, 32])))) + (ByteArray.size x4)) 9223372036854775807)
 (rAsk (!((ByteArray.toList d) == []))
 (rAsk (Nat.ble ((ByteArray.size ((((((ByteArray.mk (List.toArray [119, 104, 121, 32])) ++ x2) ++ (ByteArray.mk (List.toArray [32, 110, 32]))) ++ x3) ++ (ByteArray.mk (List.toArray [32, 109, 32]))) ++ x4)) + 6) 9223372036854775807)
 (rGet (fnS (fun (zs : ByteArray) => ((AV.dat (D.str zs)), [])) (P10 [(AV.dat (D.str d))] [])) fun x5 =>
 (rAsk (Nat.ble ((ByteArray.size (((((((ByteArray.mk (List.toArray [119, 104, 121, 32])) ++ x2) ++ (ByteArray.mk (List.toArray [32, 110, 32]))) ++ x3) ++ (ByteArray.mk (List.toArray [32, 109, 32]))) ++ x4) ++ (ByteArray.mk (List.toArray [32, 100, 97, 116, 97, 32])))) + (ByteArray.size x5)) 9223372036854775807)
 (rAsk (decide ((((List.length l) : Nat) : Int) > (0 : Int)))
 (rAsk (Nat.ble ((ByteArray.size ((((((((ByteArray.mk (List.toArray [119, 104, 121, 32])) ++ x2) ++ (ByteArray.mk (List.toArray [32, 110, 32]))) ++ x3) ++ (ByteArray.mk (List.toArray [32, 109, 32]))) ++ x4) ++ (ByteArray.mk (List.toArray [32, 100, 97, 116, 97, 32]))) ++ x5)) + 5) 9223372036854775807)
 (rGet (loS TT (TOrc.runs t107) (HSc 7) lp7 out7s (St.mk (mkT 0 85 [(1, (AV.ptr (Ref.loc 0) 0)), (4, (AV.dat (D.str (((((((((ByteArray.mk (List.toArray [119, 104, 121, 32])) ++ x2) ++ (ByteArray.mk (List.toArray [32, 110, 32]))) ++ x3) ++ (ByteArray.mk (List.toArray [32, 109, 32]))) ++ x4) ++ (ByteArray.mk (List.toArray [32, 100, 97, 116, 97, 32]))) ++ x5) ++ (ByteArray.mk (List.toArray [32, 108, 105, 115, 116])))))), (5, (AV.dat (D.int IntKind.i64 (0 : Int))))]) (Mem.mk [(Option.some (Ent.obj [(AV.dat (D.int IntKind.i64 why)), (AV.dat (D.int IntKind.i64 n)), (AV.dat (D.int IntKind.i64 m)), (AV.dat (D.str d)), (AV.dat (D.list k z l))]))] [] 0))) fun x6 =>
 (some ((AV.tup [(AV.dat (D.str x6)), (AV.dat (D.int IntKind.i64 (0 : Int)))]), []))
 )
 none
 )
 (rGet (loS TT (TOrc.runs t107) (HSc 7) lp7 out7s (St.mk (mkT 0 85 [(1, (AV.ptr (Ref.loc 0) 0)), (4, (AV.dat (D.str ((((((((ByteArray.mk (List.toArray [119, 104, 121, 32])) ++ x2) ++ (ByteArray.mk (List.toArray [32, 110, 32]))) ++ x3) ++ (ByteArray.mk (List.toArray [32, 109, 32]))) ++ x4) ++ (ByteArray.mk (List.toArray [32, 100, 97, 116, 97, 32]))) ++ x5)))), (5, (AV.dat (D.int IntKind.i64 (0 : Int))))]) (Mem.mk [(Option.some (Ent.obj [(AV.dat (D.int IntKind.i64 why)), (AV.dat (D.int IntKind.i64 n)), (AV.dat (D.int IntKind.i64 m)), (AV.dat (D.str d)), (AV.dat (D.list k z l))]))] [] 0))) fun x7 =>
 (some ((AV.tup [(AV.dat (D.str x7)), (AV.dat (D.int IntKind.i64 (0 : Int)))]), []))
 )
 )
 none
 )
 )
 none
 )
 (rAsk (decide ((((List.length l) : Nat) : Int) > (0 : Int)))
 (rAsk (Nat.ble ((ByteArray.size ((((((ByteArray.mk (List.toArray [119, 104, 121, 32])) ++ x2) ++ (ByteArray.mk (List.toArray [32, 110, 32]))) ++ x3) ++ (ByteArray.mk (List.toArray [32, 109, 32]))) ++ x4)) + 5) 9223372036854775807)
 (rGet (loS TT (TOrc.runs t107) (HSc 7) lp7 out7s (St.mk (mkT 0 85 [(1, (AV.ptr (Ref.loc 0) 0)), (4, (AV.dat (D.str (((((((ByteArray.mk (List.toArray [119, 104, 121, 32])) ++ x2) ++ (ByteArray.mk (List.toArray [32, 110, 32]))) ++ x3) ++ (ByteArray.mk (List.toArray [32, 109, 32]))) ++ x4) ++ (ByteArray.mk (List.toArray [32, 108, 105, 115, 116])))))), (5, (AV.dat (D.int IntKind.i64 (0 : Int))))]) (Mem.mk [(Option.some (Ent.obj [(AV.dat (D.int IntKind.i64 why)), (AV.dat (D.int IntKind.i64 n)), (AV.dat (D.int IntKind.i64 m)), (AV.dat (D.str d)), (AV.dat (D.list k z l))]))] [] 0))) fun x8 =>
 (some ((AV.tup [(AV.dat (D.str x8)), (AV.dat (D.int IntKind.i64 (0 : Int)))]), []))
 )
 none
 )
 (rGet (loS TT (TOrc.runs t107) (HSc 7) lp7 out7s (St.mk (mkT 0 85 [(1, (AV.ptr (Ref.loc 0) 0)), (4, (AV.dat (D.str ((((((ByteArray.mk (List.toArray [119, 104, 121, 32])) ++ x2) ++ (ByteArray.mk (List.toArray [32, 110, 32]))) ++ x3) ++ (ByteArray.mk (List.toArray [32, 109, 32]))) ++ x4)))), (5, (AV.dat (D.int IntKind.i64 (0 : Int))))]) (Mem.mk [(Option.some (Ent.obj [(AV.dat (D.int IntKind.i64 why)), (AV.dat (D.int IntKind.i64 n)), (AV.dat (D.int IntKind.i64 m)), (AV.dat (D.str d)), (AV.dat (D.list k z l))]))] [] 0))) fun x9 =>
 (some ((AV.tup [(AV.dat (D.str x9)), (AV.dat (D.int IntKind.i64 (0 : Int)))]), []))
 )
 )
 )
 none
 )
 )
 none
 )
 (rAsk (!((ByteArray.toList d) == []))
 (rAsk (Nat.ble ((ByteArray.size ((((ByteArray.mk (List.toArray [119, 104, 121, 32])) ++ x2) ++ (ByteArray.mk (List.toArray [32, 110, 32]))) ++ x3)) + 6) 9223372036854775807)
 (rGet (fnS (fun (zs : ByteArray) => ((AV.dat (D.str zs)), [])) (P10 [(AV.dat (D.str d))] [])) fun x10 =>
 (rAsk (Nat.ble ((ByteArray.size (((((ByteArray.mk (List.toArray [119, 104, 121, 32])) ++ x2) ++ (ByteArray.mk (List.toArray [32, 110, 32]))) ++ x3) ++ (ByteArray.mk (List.toArray [32, 100, 97, 116, 97, 32])))) + (ByteArray.size x10)) 9223372036854775807)
 (rAsk (decide ((((List.length l) : Nat) : Int) > (0 : Int)))
 (rAsk (Nat.ble ((ByteArray.size ((((((ByteArray.mk (List.toArray [119, 104, 121, 32])) ++ x2) ++ (ByteArray.mk (List.toArray [32, 110, 32]))) ++ x3) ++ (ByteArray.mk (List.toArray [32, 100, 97, 116, 97, 32]))) ++ x10)) + 5) 9223372036854775807)
 (rGet (loS TT (TOrc.runs t107) (HSc 7) lp7 out7s (St.mk (mkT 0 85 [(1, (AV.ptr (Ref.loc 0) 0)), (4, (AV.dat (D.str (((((((ByteArray.mk (List.toArray [119, 104, 121, 32])) ++ x2) ++ (ByteArray.mk (List.toArray [32, 110, 32]))) ++ x3) ++ (ByteArray.mk (List.toArray [32, 100, 97, 116, 97, 32]))) ++ x10) ++ (ByteArray.mk (List.toArray [32, 108, 105, 115, 116])))))), (5, (AV.dat (D.int IntKind.i64 (0 : Int))))]) (Mem.mk [(Option.some (Ent.obj [(AV.dat (D.int IntKind.i64 why)), (AV.dat (D.int IntKind.i64 n)), (AV.dat (D.int IntKind.i64 m)), (AV.dat (D.str d)), (AV.dat (D.list k z l))]))] [] 0))) fun x11 =>
 (some ((AV.tup [(AV.dat (D.str x11)), (AV.dat (D.int IntKind.i64 (0 : Int)))]), []))
 )
 none
 )
 (rGet (loS TT (TOrc.runs t107) (HSc 7) lp7 out7s (St.mk (mkT 0 85 [(1, (AV.ptr (Ref.loc 0) 0)), (4, (AV.dat (D.str ((((((ByteArray.mk (List.toArray [119, 104, 121, 32])) ++ x2) ++ (ByteArray.mk (List.toArray [32, 110, 32]))) ++ x3) ++ (ByteArray.mk (List.toArray [32, 100, 97, 116, 97, 32]))) ++ x10)))), (5, (AV.dat (D.int IntKind.i64 (0 : Int))))]) (Mem.mk [(Option.some (Ent.obj [(AV.dat (D.int IntKind.i64 why)), (AV.dat (D.int IntKind.i64 n)), (AV.dat (D.int IntKind.i64 m)), (AV.dat (D.str d)), (AV.dat (D.list k z l))]))] [] 0))) fun x12 =>
 (some ((AV.tup [(AV.dat (D.str x12)), (AV.dat (D.int IntKind.i64 (0 : Int)))]), []))
 )
 )
 none
 )
 )
 none
 )
 (rAsk (decide ((((List.length l) : Nat) : Int) > (0 : Int)))
 (rAsk (Nat.ble ((ByteArray.size ((((ByteArray.mk (List.toArray [119, 104, 121, 32])) ++ x2) ++ (ByteArray.mk (List.toArray [32, 110, 32]))) ++ x3)) + 5) 9223372036854775807)
 (rGet (loS TT (TOrc.runs t107) (HSc 7) lp7 out7s (St.mk (mkT 0 85 [(1, (AV.ptr (Ref.loc 0) 0)), (4, (AV.dat (D.str (((((ByteArray.mk (List.toArray [119, 104, 121, 32])) ++ x2) ++ (ByteArray.mk (List.toArray [32, 110, 32]))) ++ x3) ++ (ByteArray.mk (List.toArray [32, 108, 105, 115, 116])))))), (5, (AV.dat (D.int IntKind.i64 (0 : Int))))]) (Mem.mk [(Option.some (Ent.obj [(AV.dat (D.int IntKind.i64 why)), (AV.dat (D.int IntKind.i64 n)), (AV.dat (D.int IntKind.i64 m)), (AV.dat (D.str d)), (AV.dat (D.list k z l))]))] [] 0))) fun x13 =>
 (some ((AV.tup [(AV.dat (D.str x13)), (AV.dat (D.int IntKind.i64 (0 : Int)))]), []))
 )
 none
 )
 (rGet (loS TT (TOrc.runs t107) (HSc 7) lp7 out7s (St.mk (mkT 0 85 [(1, (AV.ptr (Ref.loc 0) 0)), (4, (AV.dat (D.str ((((ByteArray.mk (List.toArray [119, 104, 121, 32])) ++ x2) ++ (ByteArray.mk (List.toArray [32, 110, 32]))) ++ x3)))), (5, (AV.dat (D.int IntKind.i64 (0 : Int))))]) (Mem.mk [(Option.some (Ent.obj [(AV.dat (D.int IntKind.i64 why)), (AV.dat (D.int IntKind.i64 n)), (AV.dat (D.int IntKind.i64 m)), (AV.dat (D.str d)), (AV.dat (D.list k z l))]))] [] 0))) fun x14 =>
 (some ((AV.tup [(AV.dat (D.str x14)), (AV.dat (D.int IntKind.i64 (0 : Int)))]), []))
 )
 )
 )
 )
 none
 )
 )
 none
 )
 (rAsk (m != (0 : Int))
 (rAsk (Nat.ble ((ByteArray.size ((ByteArray.mk (List.toArray [119, 104, 121, 32])) ++ x2)) + 3) 9223372036854775807)
 (rGet (fnS (fun (zs : ByteArray) => ((AV.dat (D.str zs)), [])) (P118 [(AV.dat (D.int IntKind.i64 m))] [])) fun x15 =>
 (rAsk (Nat.ble ((ByteArray.size (((ByteArray.mk (List.toArray [119, 104, 121, 32])) ++ x2) ++ (ByteArray.mk (List.toArray [32, 109, 32])))) + (ByteArray.size x15)) 9223372036854775807)
 (rAsk (!((ByteArray.toList d) == []))
 (rAsk (Nat.ble ((ByteArray.size ((((ByteArray.mk (List.toArray [119, 104, 121, 32])) ++ x2) ++ (ByteArray.mk (List.toArray [32, 109, 32]))) ++ x15)) + 6) 9223372036854775807)
 (rGet (fnS (fun (zs : ByteArray) => ((AV.dat (D.str zs)), [])) (P10 [(AV.dat (D.str d))] [])) fun x16 =>
 (rAsk (Nat.ble ((ByteArray.size (((((ByteArray.mk (List.toArray [119, 104, 121, 32])) ++ x2) ++ (ByteArray.mk (List.toArray [32, 109, 32]))) ++ x15) ++ (ByteArray.mk (List.toArray [32, 100, 97, 116, 97, 32])))) + (ByteArray.size x16)) 9223372036854775807)
 (rAsk (decide ((((List.length l) : Nat) : Int) > (0 : Int)))
 (rAsk (Nat.ble ((ByteArray.size ((((((ByteArray.mk (List.toArray [119, 104, 121, 32])) ++ x2) ++ (ByteArray.mk (List.toArray [32, 109, 32]))) ++ x15) ++ (ByteArray.mk (List.toArray [32, 100, 97, 116, 97, 32]))) ++ x16)) + 5) 9223372036854775807)
 (rGet (loS TT (TOrc.runs t107) (HSc 7) lp7 out7s (St.mk (mkT 0 85 [(1, (AV.ptr (Ref.loc 0) 0)), (4, (AV.dat (D.str (((((((ByteArray.mk (List.toArray [119, 104, 121, 32])) ++ x2) ++ (ByteArray.mk (List.toArray [32, 109, 32]))) ++ x15) ++ (ByteArray.mk (List.toArray [32, 100, 97, 116, 97, 32]))) ++ x16) ++ (ByteArray.mk (List.toArray [32, 108, 105, 115, 116])))))), (5, (AV.dat (D.int IntKind.i64 (0 : Int))))]) (Mem.mk [(Option.some (Ent.obj [(AV.dat (D.int IntKind.i64 why)), (AV.dat (D.int IntKind.i64 n)), (AV.dat (D.int IntKind.i64 m)), (AV.dat (D.str d)), (AV.dat (D.list k z l))]))] [] 0))) fun x17 =>
 (some ((AV.tup [(AV.dat (D.str x17)), (AV.dat (D.int IntKind.i64 (0 : Int)))]), []))
 )
 none
 )
 (rGet (loS TT (TOrc.runs t107) (HSc 7) lp7 out7s (St.mk (mkT 0 85 [(1, (AV.ptr (Ref.loc 0) 0)), (4, (AV.dat (D.str ((((((ByteArray.mk (List.toArray [119, 104, 121, 32])) ++ x2) ++ (ByteArray.mk (List.toArray [32, 109, 32]))) ++ x15) ++ (ByteArray.mk (List.toArray [32, 100, 97, 116, 97, 32]))) ++ x16)))), (5, (AV.dat (D.int IntKind.i64 (0 : Int))))]) (Mem.mk [(Option.some (Ent.obj [(AV.dat (D.int IntKind.i64 why)), (AV.dat (D.int IntKind.i64 n)), (AV.dat (D.int IntKind.i64 m)), (AV.dat (D.str d)), (AV.dat (D.list k z l))]))] [] 0))) fun x18 =>
 (some ((AV.tup [(AV.dat (D.str x18)), (AV.dat (D.int IntKind.i64 (0 : Int)))]), []))
 )
 )
 none
 )
 )
 none
 )
 (rAsk (decide ((((List.length l) : Nat) : Int) > (0 : Int)))
 (rAsk (Nat.ble ((ByteArray.size ((((ByteArray.mk (List.toArray [119, 104, 121, 32])) ++ x2) ++ (ByteArray.mk (List.toArray [32, 109, 32]))) ++ x15)) + 5) 9223372036854775807)
 (rGet (loS TT (TOrc.runs t107) (HSc 7) lp7 out7s (St.mk (mkT 0 85 [(1, (AV.ptr (Ref.loc 0) 0)), (4, (AV.dat (D.str (((((ByteArray.mk (List.toArray [119, 104, 121, 32])) ++ x2) ++ (ByteArray.mk (List.toArray [32, 109, 32]))) ++ x15) ++ (ByteArray.mk (List.toArray [32, 108, 105, 115, 116])))))), (5, (AV.dat (D.int IntKind.i64 (0 : Int))))]) (Mem.mk [(Option.some (Ent.obj [(AV.dat (D.int IntKind.i64 why)), (AV.dat (D.int IntKind.i64 n)), (AV.dat (D.int IntKind.i64 m)), (AV.dat (D.str d)), (AV.dat (D.list k z l))]))] [] 0))) fun x19 =>
 (some ((AV.tup [(AV.dat (D.str x19)), (AV.dat (D.int IntKind.i64 (0 : Int)))]), []))
 )
 none
 )
 (rGet (loS TT (TOrc.runs t107) (HSc 7) lp7 out7s (St.mk (mkT 0 85 [(1, (AV.ptr (Ref.loc 0) 0)), (4, (AV.dat (D.str ((((ByteArray.mk (List.toArray [119, 104, 121, 32])) ++ x2) ++ (ByteArray.mk (List.toArray [32, 109, 32]))) ++ x15)))), (5, (AV.dat (D.int IntKind.i64 (0 : Int))))]) (Mem.mk [(Option.some (Ent.obj [(AV.dat (D.int IntKind.i64 why)), (AV.dat (D.int IntKind.i64 n)), (AV.dat (D.int IntKind.i64 m)), (AV.dat (D.str d)), (AV.dat (D.list k z l))]))] [] 0))) fun x20 =>
 (some ((AV.tup [(AV.dat (D.str x20)), (AV.dat (D.int IntKind.i64 (0 : Int)))]), []))
 )
 )
 )
 none
 )
 )
 none
 )
 (rAsk (!((ByteArray.toList d) == []))
 (rAsk (Nat.ble ((ByteArray.size ((ByteArray.mk (List.toArray [119, 104, 121, 32])) ++ x2)) + 6) 9223372036854775807)
 (rGet (fnS (fun (zs : ByteArray) => ((AV.dat (D.str zs)), [])) (P10 [(AV.dat (D.str d))] [])) fun x21 =>
 (rAsk (Nat.ble ((ByteArray.size (((ByteArray.mk (List.toArray [119, 104, 121, 32])) ++ x2) ++ (ByteArray.mk (List.toArray [32, 100, 97, 116, 97, 32])))) + (ByteArray.size x21)) 9223372036854775807)
 (rAsk (decide ((((List.length l) : Nat) : Int) > (0 : Int)))
 (rAsk (Nat.ble ((ByteArray.size ((((ByteArray.mk (List.toArray [119, 104, 121, 32])) ++ x2) ++ (ByteArray.mk (List.toArray [32, 100, 97, 116, 97, 32]))) ++ x21)) + 5) 9223372036854775807)
 (rGet (loS TT (TOrc.runs t107) (HSc 7) lp7 out7s (St.mk (mkT 0 85 [(1, (AV.ptr (Ref.loc 0) 0)), (4, (AV.dat (D.str (((((ByteArray.mk (List.toArray [119, 104, 121, 32])) ++ x2) ++ (ByteArray.mk (List.toArray [32, 100, 97, 116, 97, 32]))) ++ x21) ++ (ByteArray.mk (List.toArray [32, 108, 105, 115, 116])))))), (5, (AV.dat (D.int IntKind.i64 (0 : Int))))]) (Mem.mk [(Option.some (Ent.obj [(AV.dat (D.int IntKind.i64 why)), (AV.dat (D.int IntKind.i64 n)), (AV.dat (D.int IntKind.i64 m)), (AV.dat (D.str d)), (AV.dat (D.list k z l))]))] [] 0))) fun x22 =>
 (some ((AV.tup [(AV.dat (D.str x22)), (AV.dat (D.int IntKind.i64 (0 : Int)))]), []))
 )
 none
 )
 (rGet (loS TT (TOrc.runs t107) (HSc 7) lp7 out7s (St.mk (mkT 0 85 [(1, (AV.ptr (Ref.loc 0) 0)), (4, (AV.dat (D.str ((((ByteArray.mk (List.toArray [119, 104, 121, 32])) ++ x2) ++ (ByteArray.mk (List.toArray [32, 100, 97, 116, 97, 32]))) ++ x21)))), (5, (AV.dat (D.int IntKind.i64 (0 : Int))))]) (Mem.mk [(Option.some (Ent.obj [(AV.dat (D.int IntKind.i64 why)), (AV.dat (D.int IntKind.i64 n)), (AV.dat (D.int IntKind.i64 m)), (AV.dat (D.str d)), (AV.dat (D.list k z l))]))] [] 0))) fun x23 =>
 (some ((AV.tup [(AV.dat (D.str x23)), (AV.dat (D.int IntKind.i64 (0 : Int)))]), []))
 )
 )
 none
 )
 )
 none
 )
 (rAsk (decide ((((List.length l) : Nat) : Int) > (0 : Int)))
 (rAsk (Nat.ble ((ByteArray.size ((ByteArray.mk (List.toArray [119, 104, 121, 32])) ++ x2)) + 5) 9223372036854775807)
 (rGet (loS TT (TOrc.runs t107) (HSc 7) lp7 out7s (St.mk (mkT 0 85 [(1, (AV.ptr (Ref.loc 0) 0)), (4, (AV.dat (D.str (((ByteArray.mk (List.toArray [119, 104, 121, 32])) ++ x2) ++ (ByteArray.mk (List.toArray [32, 108, 105, 115, 116])))))), (5, (AV.dat (D.int IntKind.i64 (0 : Int))))]) (Mem.mk [(Option.some (Ent.obj [(AV.dat (D.int IntKind.i64 why)), (AV.dat (D.int IntKind.i64 n)), (AV.dat (D.int IntKind.i64 m)), (AV.dat (D.str d)), (AV.dat (D.list k z l))]))] [] 0))) fun x24 =>
 (some ((AV.tup [(AV.dat (D.str x24)), (AV.dat (D.int IntKind.i64 (0 : Int)))]), []))
 )
 none
 )
 (rGet (loS TT (TOrc.runs t107) (HSc 7) lp7 out7s (St.mk (mkT 0 85 [(1, (AV.ptr (Ref.loc 0) 0)), (4, (AV.dat (D.str ((ByteArray.mk (List.toArray [119, 104, 121, 32])) ++ x2)))), (5, (AV.dat (D.int IntKind.i64 (0 : Int))))]) (Mem.mk [(Option.some (Ent.obj [(AV.dat (D.int IntKind.i64 why)), (AV.dat (D.int IntKind.i64 n)), (AV.dat (D.int IntKind.i64 m)), (AV.dat (D.str d)), (AV.dat (D.list k z l))]))] [] 0))) fun x25 =>
 (some ((AV.tup [(AV.dat (D.str x25)), (AV.dat (D.int IntKind.i64 (0 : Int)))]), []))
 )
 )
 )
 )
 )
 none
 )
 )
 )
 )
 )
 (rAsk (decide ((((List.length l) : Nat) : Int) > (60 : Int)))
 (some ((AV.tup [(AV.dat (D.str (ByteArray.mk (List.toArray [])))), (AV.dat (D.int IntKind.i64 (6 : Int)))]), []))
 (rGet (fnS (fun (zs : ByteArray) => ((AV.dat (D.str zs)), [])) (P118 [(AV.dat (D.int IntKind.i64 why))] [])) fun x26 =>
 (rAsk (Nat.ble (4 + (ByteArray.size x26)) 9223372036854775807)
 (rAsk (n != (0 : Int))
 (rAsk (Nat.ble ((ByteArray.size ((ByteArray.mk (List.toArray [119, 104, 121, 32])) ++ x26)) + 3) 9223372036854775807)
 (rGet (fnS (fun (zs : ByteArray) => ((AV.dat (D.str zs)), [])) (P118 [(AV.dat (D.int IntKind.i64 n))] [])) fun x27 =>
 (rAsk (Nat.ble ((ByteArray.size (((ByteArray.mk (List.toArray [119, 104, 121, 32])) ++ x26) ++ (ByteArray.mk (List.toArray [32, 110, 32])))) + (ByteArray.size x27)) 9223372036854775807)
 (rAsk (m != (0 : Int))
 (rAsk (Nat.ble ((ByteArray.size ((((ByteArray.mk (List.toArray [119, 104, 121, 32])) ++ x26) ++ (ByteArray.mk (List.toArray [32, 110, 32]))) ++ x27)) + 3) 9223372036854775807)
 (rGet (fnS (fun (zs : ByteArray) => ((AV.dat (D.str zs)), [])) (P118 [(AV.dat (D.int IntKind.i64 m))] [])) fun x28 =>
 (rAsk (Nat.ble ((ByteArray.size (((((ByteArray.mk (List.toArray [119, 104, 121, 32])) ++ x26) ++ (ByteArray.mk (List.toArray [32, 110, 32]))) ++ x27) ++ (ByteArray.mk (List.toArray [32, 109, 32])))) + (ByteArray.size x28)) 9223372036854775807)
 (rAsk (!((ByteArray.toList d) == []))
 (rAsk (Nat.ble ((ByteArray.size ((((((ByteArray.mk (List.toArray [119, 104, 121, 32])) ++ x26) ++ (ByteArray.mk (List.toArray [32, 110, 32]))) ++ x27) ++ (ByteArray.mk (List.toArray [32, 109, 32]))) ++ x28)) + 6) 9223372036854775807)
 (rGet (fnS (fun (zs : ByteArray) => ((AV.dat (D.str zs)), [])) (P10 [(AV.dat (D.str d))] [])) fun x29 =>
 (rAsk (Nat.ble ((ByteArray.size (((((((ByteArray.mk (List.toArray [119, 104, 121, 32])) ++ x26) ++ (ByteArray.mk (List.toArray [32, 110, 32]))) ++ x27) ++ (ByteArray.mk (List.toArray [32, 109, 32]))) ++ x28) ++ (ByteArray.mk (List.toArray [32, 100, 97, 116, 97, 32])))) + (ByteArray.size x29)) 9223372036854775807)
 (rAsk (decide ((((List.length l) : Nat) : Int) > (0 : Int)))
 (rAsk (Nat.ble ((ByteArray.size ((((((((ByteArray.mk (List.toArray [119, 104, 121, 32])) ++ x26) ++ (ByteArray.mk (List.toArray [32, 110, 32]))) ++ x27) ++ (ByteArray.mk (List.toArray [32, 109, 32]))) ++ x28) ++ (ByteArray.mk (List.toArray [32, 100, 97, 116, 97, 32]))) ++ x29)) + 5) 9223372036854775807)
 (rGet (loS TT (TOrc.runs t107) (HSc 7) lp7 out7s (St.mk (mkT 0 85 [(1, (AV.ptr (Ref.loc 0) 0)), (4, (AV.dat (D.str (((((((((ByteArray.mk (List.toArray [119, 104, 121, 32])) ++ x26) ++ (ByteArray.mk (List.toArray [32, 110, 32]))) ++ x27) ++ (ByteArray.mk (List.toArray [32, 109, 32]))) ++ x28) ++ (ByteArray.mk (List.toArray [32, 100, 97, 116, 97, 32]))) ++ x29) ++ (ByteArray.mk (List.toArray [32, 108, 105, 115, 116])))))), (5, (AV.dat (D.int IntKind.i64 (0 : Int))))]) (Mem.mk [(Option.some (Ent.obj [(AV.dat (D.int IntKind.i64 why)), (AV.dat (D.int IntKind.i64 n)), (AV.dat (D.int IntKind.i64 m)), (AV.dat (D.str d)), (AV.dat (D.list k z l))]))] [] 0))) fun x30 =>
 (some ((AV.tup [(AV.dat (D.str x30)), (AV.dat (D.int IntKind.i64 (0 : Int)))]), []))
 )
 none
 )
 (rGet (loS TT (TOrc.runs t107) (HSc 7) lp7 out7s (St.mk (mkT 0 85 [(1, (AV.ptr (Ref.loc 0) 0)), (4, (AV.dat (D.str ((((((((ByteArray.mk (List.toArray [119, 104, 121, 32])) ++ x26) ++ (ByteArray.mk (List.toArray [32, 110, 32]))) ++ x27) ++ (ByteArray.mk (List.toArray [32, 109, 32]))) ++ x28) ++ (ByteArray.mk (List.toArray [32, 100, 97, 116, 97, 32]))) ++ x29)))), (5, (AV.dat (D.int IntKind.i64 (0 : Int))))]) (Mem.mk [(Option.some (Ent.obj [(AV.dat (D.int IntKind.i64 why)), (AV.dat (D.int IntKind.i64 n)), (AV.dat (D.int IntKind.i64 m)), (AV.dat (D.str d)), (AV.dat (D.list k z l))]))] [] 0))) fun x31 =>
 (some ((AV.tup [(AV.dat (D.str x31)), (AV.dat (D.int IntKind.i64 (0 : Int)))]), []))
 )
 )
 none
 )
 )
 none
 )
 (rAsk (decide ((((List.length l) : Nat) : Int) > (0 : Int)))
 (rAsk (Nat.ble ((ByteArray.size ((((((ByteArray.mk (List.toArray [119, 104, 121, 32])) ++ x26) ++ (ByteArray.mk (List.toArray [32, 110, 32]))) ++ x27) ++ (ByteArray.mk (List.toArray [32, 109, 32]))) ++ x28)) + 5) 9223372036854775807)
 (rGet (loS TT (TOrc.runs t107) (HSc 7) lp7 out7s (St.mk (mkT 0 85 [(1, (AV.ptr (Ref.loc 0) 0)), (4, (AV.dat (D.str (((((((ByteArray.mk (List.toArray [119, 104, 121, 32])) ++ x26) ++ (ByteArray.mk (List.toArray [32, 110, 32]))) ++ x27) ++ (ByteArray.mk (List.toArray [32, 109, 32]))) ++ x28) ++ (ByteArray.mk (List.toArray [32, 108, 105, 115, 116])))))), (5, (AV.dat (D.int IntKind.i64 (0 : Int))))]) (Mem.mk [(Option.some (Ent.obj [(AV.dat (D.int IntKind.i64 why)), (AV.dat (D.int IntKind.i64 n)), (AV.dat (D.int IntKind.i64 m)), (AV.dat (D.str d)), (AV.dat (D.list k z l))]))] [] 0))) fun x32 =>
 (some ((AV.tup [(AV.dat (D.str x32)), (AV.dat (D.int IntKind.i64 (0 : Int)))]), []))
 )
 none
 )
 (rGet (loS TT (TOrc.runs t107) (HSc 7) lp7 out7s (St.mk (mkT 0 85 [(1, (AV.ptr (Ref.loc 0) 0)), (4, (AV.dat (D.str ((((((ByteArray.mk (List.toArray [119, 104, 121, 32])) ++ x26) ++ (ByteArray.mk (List.toArray [32, 110, 32]))) ++ x27) ++ (ByteArray.mk (List.toArray [32, 109, 32]))) ++ x28)))), (5, (AV.dat (D.int IntKind.i64 (0 : Int))))]) (Mem.mk [(Option.some (Ent.obj [(AV.dat (D.int IntKind.i64 why)), (AV.dat (D.int IntKind.i64 n)), (AV.dat (D.int IntKind.i64 m)), (AV.dat (D.str d)), (AV.dat (D.list k z l))]))] [] 0))) fun x33 =>
 (some ((AV.tup [(AV.dat (D.str x33)), (AV.dat (D.int IntKind.i64 (0 : Int)))]), []))
 )
 )
 )
 none
 )
 )
 none
 )
 (rAsk (!((ByteArray.toList d) == []))
 (rAsk (Nat.ble ((ByteArray.size ((((ByteArray.mk (List.toArray [119, 104, 121, 32])) ++ x26) ++ (ByteArray.mk (List.toArray [32, 110, 32]))) ++ x27)) + 6) 9223372036854775807)
 (rGet (fnS (fun (zs : ByteArray) => ((AV.dat (D.str zs)), [])) (P10 [(AV.dat (D.str d))] [])) fun x34 =>
 (rAsk (Nat.ble ((ByteArray.size (((((ByteArray.mk (List.toArray [119, 104, 121, 32])) ++ x26) ++ (ByteArray.mk (List.toArray [32, 110, 32]))) ++ x27) ++ (ByteArray.mk (List.toArray [32, 100, 97, 116, 97, 32])))) + (ByteArray.size x34)) 9223372036854775807)
 (rAsk (decide ((((List.length l) : Nat) : Int) > (0 : Int)))
 (rAsk (Nat.ble ((ByteArray.size ((((((ByteArray.mk (List.toArray [119, 104, 121, 32])) ++ x26) ++ (ByteArray.mk (List.toArray [32, 110, 32]))) ++ x27) ++ (ByteArray.mk (List.toArray [32, 100, 97, 116, 97, 32]))) ++ x34)) + 5) 9223372036854775807)
 (rGet (loS TT (TOrc.runs t107) (HSc 7) lp7 out7s (St.mk (mkT 0 85 [(1, (AV.ptr (Ref.loc 0) 0)), (4, (AV.dat (D.str (((((((ByteArray.mk (List.toArray [119, 104, 121, 32])) ++ x26) ++ (ByteArray.mk (List.toArray [32, 110, 32]))) ++ x27) ++ (ByteArray.mk (List.toArray [32, 100, 97, 116, 97, 32]))) ++ x34) ++ (ByteArray.mk (List.toArray [32, 108, 105, 115, 116])))))), (5, (AV.dat (D.int IntKind.i64 (0 : Int))))]) (Mem.mk [(Option.some (Ent.obj [(AV.dat (D.int IntKind.i64 why)), (AV.dat (D.int IntKind.i64 n)), (AV.dat (D.int IntKind.i64 m)), (AV.dat (D.str d)), (AV.dat (D.list k z l))]))] [] 0))) fun x35 =>
 (some ((AV.tup [(AV.dat (D.str x35)), (AV.dat (D.int IntKind.i64 (0 : Int)))]), []))
 )
 none
 )
 (rGet (loS TT (TOrc.runs t107) (HSc 7) lp7 out7s (St.mk (mkT 0 85 [(1, (AV.ptr (Ref.loc 0) 0)), (4, (AV.dat (D.str ((((((ByteArray.mk (List.toArray [119, 104, 121, 32])) ++ x26) ++ (ByteArray.mk (List.toArray [32, 110, 32]))) ++ x27) ++ (ByteArray.mk (List.toArray [32, 100, 97, 116, 97, 32]))) ++ x34)))), (5, (AV.dat (D.int IntKind.i64 (0 : Int))))]) (Mem.mk [(Option.some (Ent.obj [(AV.dat (D.int IntKind.i64 why)), (AV.dat (D.int IntKind.i64 n)), (AV.dat (D.int IntKind.i64 m)), (AV.dat (D.str d)), (AV.dat (D.list k z l))]))] [] 0))) fun x36 =>
 (some ((AV.tup [(AV.dat (D.str x36)), (AV.dat (D.int IntKind.i64 (0 : Int)))]), []))
 )
 )
 none
 )
 )
 none
 )
 (rAsk (decide ((((List.length l) : Nat) : Int) > (0 : Int)))
 (rAsk (Nat.ble ((ByteArray.size ((((ByteArray.mk (List.toArray [119, 104, 121, 32])) ++ x26) ++ (ByteArray.mk (List.toArray [32, 110, 32]))) ++ x27)) + 5) 9223372036854775807)
 (rGet (loS TT (TOrc.runs t107) (HSc 7) lp7 out7s (St.mk (mkT 0 85 [(1, (AV.ptr (Ref.loc 0) 0)), (4, (AV.dat (D.str (((((ByteArray.mk (List.toArray [119, 104, 121, 32])) ++ x26) ++ (ByteArray.mk (List.toArray [32, 110, 32]))) ++ x27) ++ (ByteArray.mk (List.toArray [32, 108, 105, 115, 116])))))), (5, (AV.dat (D.int IntKind.i64 (0 : Int))))]) (Mem.mk [(Option.some (Ent.obj [(AV.dat (D.int IntKind.i64 why)), (AV.dat (D.int IntKind.i64 n)), (AV.dat (D.int IntKind.i64 m)), (AV.dat (D.str d)), (AV.dat (D.list k z l))]))] [] 0))) fun x37 =>
 (some ((AV.tup [(AV.dat (D.str x37)), (AV.dat (D.int IntKind.i64 (0 : Int)))]), []))
 )
 none
 )
 (rGet (loS TT (TOrc.runs t107) (HSc 7) lp7 out7s (St.mk (mkT 0 85 [(1, (AV.ptr (Ref.loc 0) 0)), (4, (AV.dat (D.str ((((ByteArray.mk (List.toArray [119, 104, 121, 32])) ++ x26) ++ (ByteArray.mk (List.toArray [32, 110, 32]))) ++ x27)))), (5, (AV.dat (D.int IntKind.i64 (0 : Int))))]) (Mem.mk [(Option.some (Ent.obj [(AV.dat (D.int IntKind.i64 why)), (AV.dat (D.int IntKind.i64 n)), (AV.dat (D.int IntKind.i64 m)), (AV.dat (D.str d)), (AV.dat (D.list k z l))]))] [] 0))) fun x38 =>
 (some ((AV.tup [(AV.dat (D.str x38)), (AV.dat (D.int IntKind.i64 (0 : Int)))]), []))
 )
 )
 )
 )
 none
 )
 )
 none
 )
 (rAsk (m != (0 : Int))
 (rAsk (Nat.ble ((ByteArray.size ((ByteArray.mk (List.toArray [119, 104, 121, 32])) ++ x26)) + 3) 9223372036854775807)
 (rGet (fnS (fun (zs : ByteArray) => ((AV.dat (D.str zs)), [])) (P118 [(AV.dat (D.int IntKind.i64 m))] [])) fun x39 =>
 (rAsk (Nat.ble ((ByteArray.size (((ByteArray.mk (List.toArray [119, 104, 121, 32])) ++ x26) ++ (ByteArray.mk (List.toArray [32, 109, 32])))) + (ByteArray.size x39)) 9223372036854775807)
 (rAsk (!((ByteArray.toList d) == []))
 (rAsk (Nat.ble ((ByteArray.size ((((ByteArray.mk (List.toArray [119, 104, 121, 32])) ++ x26) ++ (ByteArray.mk (List.toArray [32, 109, 32]))) ++ x39)) + 6) 9223372036854775807)
 (rGet (fnS (fun (zs : ByteArray) => ((AV.dat (D.str zs)), [])) (P10 [(AV.dat (D.str d))] [])) fun x40 =>
 (rAsk (Nat.ble ((ByteArray.size (((((ByteArray.mk (List.toArray [119, 104, 121, 32])) ++ x26) ++ (ByteArray.mk (List.toArray [32, 109, 32]))) ++ x39) ++ (ByteArray.mk (List.toArray [32, 100, 97, 116, 97, 32])))) + (ByteArray.size x40)) 9223372036854775807)
 (rAsk (decide ((((List.length l) : Nat) : Int) > (0 : Int)))
 (rAsk (Nat.ble ((ByteArray.size ((((((ByteArray.mk (List.toArray [119, 104, 121, 32])) ++ x26) ++ (ByteArray.mk (List.toArray [32, 109, 32]))) ++ x39) ++ (ByteArray.mk (List.toArray [32, 100, 97, 116, 97, 32]))) ++ x40)) + 5) 9223372036854775807)
 (rGet (loS TT (TOrc.runs t107) (HSc 7) lp7 out7s (St.mk (mkT 0 85 [(1, (AV.ptr (Ref.loc 0) 0)), (4, (AV.dat (D.str (((((((ByteArray.mk (List.toArray [119, 104, 121, 32])) ++ x26) ++ (ByteArray.mk (List.toArray [32, 109, 32]))) ++ x39) ++ (ByteArray.mk (List.toArray [32, 100, 97, 116, 97, 32]))) ++ x40) ++ (ByteArray.mk (List.toArray [32, 108, 105, 115, 116])))))), (5, (AV.dat (D.int IntKind.i64 (0 : Int))))]) (Mem.mk [(Option.some (Ent.obj [(AV.dat (D.int IntKind.i64 why)), (AV.dat (D.int IntKind.i64 n)), (AV.dat (D.int IntKind.i64 m)), (AV.dat (D.str d)), (AV.dat (D.list k z l))]))] [] 0))) fun x41 =>
 (some ((AV.tup [(AV.dat (D.str x41)), (AV.dat (D.int IntKind.i64 (0 : Int)))]), []))
 )
 none
 )
 (rGet (loS TT (TOrc.runs t107) (HSc 7) lp7 out7s (St.mk (mkT 0 85 [(1, (AV.ptr (Ref.loc 0) 0)), (4, (AV.dat (D.str ((((((ByteArray.mk (List.toArray [119, 104, 121, 32])) ++ x26) ++ (ByteArray.mk (List.toArray [32, 109, 32]))) ++ x39) ++ (ByteArray.mk (List.toArray [32, 100, 97, 116, 97, 32]))) ++ x40)))), (5, (AV.dat (D.int IntKind.i64 (0 : Int))))]) (Mem.mk [(Option.some (Ent.obj [(AV.dat (D.int IntKind.i64 why)), (AV.dat (D.int IntKind.i64 n)), (AV.dat (D.int IntKind.i64 m)), (AV.dat (D.str d)), (AV.dat (D.list k z l))]))] [] 0))) fun x42 =>
 (some ((AV.tup [(AV.dat (D.str x42)), (AV.dat (D.int IntKind.i64 (0 : Int)))]), []))
 )
 )
 none
 )
 )
 none
 )
 (rAsk (decide ((((List.length l) : Nat) : Int) > (0 : Int)))
 (rAsk (Nat.ble ((ByteArray.size ((((ByteArray.mk (List.toArray [119, 104, 121, 32])) ++ x26) ++ (ByteArray.mk (List.toArray [32, 109, 32]))) ++ x39)) + 5) 9223372036854775807)
 (rGet (loS TT (TOrc.runs t107) (HSc 7) lp7 out7s (St.mk (mkT 0 85 [(1, (AV.ptr (Ref.loc 0) 0)), (4, (AV.dat (D.str (((((ByteArray.mk (List.toArray [119, 104, 121, 32])) ++ x26) ++ (ByteArray.mk (List.toArray [32, 109, 32]))) ++ x39) ++ (ByteArray.mk (List.toArray [32, 108, 105, 115, 116])))))), (5, (AV.dat (D.int IntKind.i64 (0 : Int))))]) (Mem.mk [(Option.some (Ent.obj [(AV.dat (D.int IntKind.i64 why)), (AV.dat (D.int IntKind.i64 n)), (AV.dat (D.int IntKind.i64 m)), (AV.dat (D.str d)), (AV.dat (D.list k z l))]))] [] 0))) fun x43 =>
 (some ((AV.tup [(AV.dat (D.str x43)), (AV.dat (D.int IntKind.i64 (0 : Int)))]), []))
 )
 none
 )
 (rGet (loS TT (TOrc.runs t107) (HSc 7) lp7 out7s (St.mk (mkT 0 85 [(1, (AV.ptr (Ref.loc 0) 0)), (4, (AV.dat (D.str ((((ByteArray.mk (List.toArray [119, 104, 121, 32])) ++ x26) ++ (ByteArray.mk (List.toArray [32, 109, 32]))) ++ x39)))), (5, (AV.dat (D.int IntKind.i64 (0 : Int))))]) (Mem.mk [(Option.some (Ent.obj [(AV.dat (D.int IntKind.i64 why)), (AV.dat (D.int IntKind.i64 n)), (AV.dat (D.int IntKind.i64 m)), (AV.dat (D.str d)), (AV.dat (D.list k z l))]))] [] 0))) fun x44 =>
 (some ((AV.tup [(AV.dat (D.str x44)), (AV.dat (D.int IntKind.i64 (0 : Int)))]), []))
 )
 )
 )
 none
 )
 )
 none
 )
 (rAsk (!((ByteArray.toList d) == []))
 (rAsk (Nat.ble ((ByteArray.size ((ByteArray.mk (List.toArray [119, 104, 121, 32])) ++ x26)) + 6) 9223372036854775807)
 (rGet (fnS (fun (zs : ByteArray) => ((AV.dat (D.str zs)), [])) (P10 [(AV.dat (D.str d))] [])) fun x45 =>
 (rAsk (Nat.ble ((ByteArray.size (((ByteArray.mk (List.toArray [119, 104, 121, 32])) ++ x26) ++ (ByteArray.mk (List.toArray [32, 100, 97, 116, 97, 32])))) + (ByteArray.size x45)) 9223372036854775807)
 (rAsk (decide ((((List.length l) : Nat) : Int) > (0 : Int)))
 (rAsk (Nat.ble ((ByteArray.size ((((ByteArray.mk (List.toArray [119, 104, 121, 32])) ++ x26) ++ (ByteArray.mk (List.toArray [32, 100, 97, 116, 97, 32]))) ++ x45)) + 5) 9223372036854775807)
 (rGet (loS TT (TOrc.runs t107) (HSc 7) lp7 out7s (St.mk (mkT 0 85 [(1, (AV.ptr (Ref.loc 0) 0)), (4, (AV.dat (D.str (((((ByteArray.mk (List.toArray [119, 104, 121, 32])) ++ x26) ++ (ByteArray.mk (List.toArray [32, 100, 97, 116, 97, 32]))) ++ x45) ++ (ByteArray.mk (List.toArray [32, 108, 105, 115, 116])))))), (5, (AV.dat (D.int IntKind.i64 (0 : Int))))]) (Mem.mk [(Option.some (Ent.obj [(AV.dat (D.int IntKind.i64 why)), (AV.dat (D.int IntKind.i64 n)), (AV.dat (D.int IntKind.i64 m)), (AV.dat (D.str d)), (AV.dat (D.list k z l))]))] [] 0))) fun x46 =>
 (some ((AV.tup [(AV.dat (D.str x46)), (AV.dat (D.int IntKind.i64 (0 : Int)))]), []))
 )
 none
 )
 (rGet (loS TT (TOrc.runs t107) (HSc 7) lp7 out7s (St.mk (mkT 0 85 [(1, (AV.ptr (Ref.loc 0) 0)), (4, (AV.dat (D.str ((((ByteArray.mk (List.toArray [119, 104, 121, 32])) ++ x26) ++ (ByteArray.mk (List.toArray [32, 100, 97, 116, 97, 32]))) ++ x45)))), (5, (AV.dat (D.int IntKind.i64 (0 : Int))))]) (Mem.mk [(Option.some (Ent.obj [(AV.dat (D.int IntKind.i64 why)), (AV.dat (D.int IntKind.i64 n)), (AV.dat (D.int IntKind.i64 m)), (AV.dat (D.str d)), (AV.dat (D.list k z l))]))] [] 0))) fun x47 =>
 (some ((AV.tup [(AV.dat (D.str x47)), (AV.dat (D.int IntKind.i64 (0 : Int)))]), []))
 )
 )
 none
 )
 )
 none
 )
 (rAsk (decide ((((List.length l) : Nat) : Int) > (0 : Int)))
 (rAsk (Nat.ble ((ByteArray.size ((ByteArray.mk (List.toArray [119, 104, 121, 32])) ++ x26)) + 5) 9223372036854775807)
 (rGet (loS TT (TOrc.runs t107) (HSc 7) lp7 out7s (St.mk (mkT 0 85 [(1, (AV.ptr (Ref.loc 0) 0)), (4, (AV.dat (D.str (((ByteArray.mk (List.toArray [119, 104, 121, 32])) ++ x26) ++ (ByteArray.mk (List.toArray [32, 108, 105, 115, 116])))))), (5, (AV.dat (D.int IntKind.i64 (0 : Int))))]) (Mem.mk [(Option.some (Ent.obj [(AV.dat (D.int IntKind.i64 why)), (AV.dat (D.int IntKind.i64 n)), (AV.dat (D.int IntKind.i64 m)), (AV.dat (D.str d)), (AV.dat (D.list k z l))]))] [] 0))) fun x48 =>
 (some ((AV.tup [(AV.dat (D.str x48)), (AV.dat (D.int IntKind.i64 (0 : Int)))]), []))
 )
 none
 )
 (rGet (loS TT (TOrc.runs t107) (HSc 7) lp7 out7s (St.mk (mkT 0 85 [(1, (AV.ptr (Ref.loc 0) 0)), (4, (AV.dat (D.str ((ByteArray.mk (List.toArray [119, 104, 121, 32])) ++ x26)))), (5, (AV.dat (D.int IntKind.i64 (0 : Int))))]) (Mem.mk [(Option.some (Ent.obj [(AV.dat (D.int IntKind.i64 why)), (AV.dat (D.int IntKind.i64 n)), (AV.dat (D.int IntKind.i64 m)), (AV.dat (D.str d)), (AV.dat (D.list k z l))]))] [] 0))) fun x49 =>
 (some ((AV.tup [(AV.dat (D.str x49)), (AV.dat (D.int IntKind.i64 (0 : Int)))]), []))
 )
 )
 )
 )
 )
 none
 )
 )
 )
 )
 )
 )
  := by kernel_rfl
theorem f12r_eq (s : ByteArray) : (f12r s).ev =
 (some ((AV.dat (D.bool ((((ByteArray.size s) : Nat) : Int) == (64 : Int)))), []))
  := by kernel_rfl
theorem f17r_eq (s : ByteArray) : (f17r s).ev =
 (some ((AV.dat (D.bool ((((ByteArray.size s) : Nat) : Int) == (64 : Int)))), []))
  := by kernel_rfl
/-! ### a line's words, the data as one -/
def secV (d : List UInt8) : List (List UInt8) := if d = [] then [] else [wData, shortB d]
def secT (l : List Int) : List (List UInt8) := if l = [] then [] else [wList]
def headV (x : An) : List (List UInt8) := wWhy :: Go.Lib.itoa x.why :: (secN x.n ++ (secM x.m ++ (secV x.data ++ secT x.list)))
theorem J_data (A B C : List (List UInt8)) (hA : A ≠ []) (hB : B ≠ []) : J (A ++ (J B :: C)) = J (A ++ (B ++ C)) := by
  obtain ⟨b, B, rfl⟩ : ∃ b B', B = b :: B' := by
    cases B with
    | nil => exact absurd rfl hB
    | cons b B => exact ⟨b, B, rfl⟩
  cases C with
  | nil => rw [J_app A _ _ hA, J_one, List.append_nil, J_app A _ _ hA]
  | cons c C =>
    rw [J_app A _ _ hA, J_cons, List.cons_append, J_app A _ _ hA, show b :: (B ++ c :: C) = (b :: B) ++ c :: C from rfl, J_app (b :: B) _ _ (by simp)]
theorem J_line {x : An} (hd : x.data = [] ∨ x.data.length = 64) : J (headV x ++ x.list.map Go.Lib.itoa) = Go.Lib.join (lineW x) [32] := by
  have e : secT x.list ++ x.list.map Go.Lib.itoa = secL x.list := by
    unfold secT secL
    split
    · rename_i h
      rw [h]
      rfl
    · rfl
  show _ = J (lineW x)
  have e2 : headV x ++ x.list.map Go.Lib.itoa = (wWhy :: Go.Lib.itoa x.why :: (secN x.n ++ secM x.m)) ++ (secV x.data ++ secL x.list) := by
    unfold headV
    rw [← e]
    simp
  have e3 : lineW x = (wWhy :: Go.Lib.itoa x.why :: (secN x.n ++ secM x.m)) ++ (secD x.data ++ secL x.list) := by
    unfold lineW
    simp
  rw [e2, e3]
  unfold secV secD
  by_cases h0 : x.data = []
  · rw [if_pos h0, if_pos h0]
  · have h64 := hd.resolve_left h0
    obtain ⟨w, ws, hw⟩ := words_ne h64
    rw [if_neg h0, if_neg h0, (short_chars h64).2]
    have := J_data ((wWhy :: Go.Lib.itoa x.why :: (secN x.n ++ secM x.m)) ++ [wData]) (wordsB 64 x.data) (secL x.list) (by simp) (by rw [hw]; simp)
    simpa using this
attribute [local irreducible] fnS loS tround P134 P118 P7 P10 S13 S14
/-! ### callees -/
theorem p12 (d : List UInt8) (G : List Ent) : P12 [.dat (.str (ba d))] G = some (oB G (decide (d.length = 64))) := by
  have e := f12r_eq (ba d)
  rw [Tr.ev_run, ba_sz] at e
  unfold P12
  refine pureS_eq (G0 := []) rfl (e.trans ?_) rfl
  have : ((((d.length : Nat) : Int)) == 64) = decide (d.length = 64) := by
    rw [Bool.eq_iff_iff, beq_iff_eq, decide_eq_true_eq]
    omega
  rw [this]
theorem p17 (d : List UInt8) (G : List Ent) : P17 [.dat (.str (ba d))] G = some (oB G (decide (d.length = 64))) := by
  have e := f17r_eq (ba d)
  rw [Tr.ev_run, ba_sz] at e
  unfold P17
  refine pureS_eq (G0 := []) rfl (e.trans ?_) rfl
  have : ((((d.length : Nat) : Int)) == 64) = decide (d.length = 64) := by
    rw [Bool.eq_iff_iff, beq_iff_eq, decide_eq_true_eq]
    omega
  rw [this]
theorem s13 {v : Int} (h : fit64 v) (G : List Ent) : S13 [.dat (.int .i64 v)] G = some (oS G (ba (Go.Lib.itoa v))) := by
  unfold S13 sItoaA
  simp only
  rw [if_pos ⟨h.1, by have := h.2; omega⟩]
  rfl
theorem s14 {v : Int} (h : fit64 v) (G : List Ent) : S14 [.dat (.int .i64 v), .dat (.int .i64 10)] G = some (oS G (ba (Go.Lib.itoa v))) := by
  unfold S14 sFormatA
  simp only
  rw [if_pos ⟨trivial, h.1, by have := h.2; omega⟩]
  rfl
theorem s16 {kk : LK} (hk : kk ≠ .nil) {W : List (List UInt8)} (h0 : W ≠ []) (h : W.length ≤ 2000) (hl : (J W).length ≤ 140737488355328) (G : List Ent) :
    S16n [.dat (.list kk 1 (List.take (List.length (sRow W)) (List.drop 0 (sRow W)))), .dat (.str (ByteArray.mk (List.toArray [32])))] G = some (oS G (ba (J W))) := by
  rw [List.drop_zero, List.take_length]
  obtain ⟨w, ws, rfl⟩ : ∃ b B', W = b :: B' := by
    cases W with
    | nil => exact absurd rfl h0
    | cons b B => exact ⟨b, B, rfl⟩
  have e1 : ((w :: ws).map ba).map (·.data.toList) = w :: ws := by
    rw [List.map_map]
    exact (List.map_congr_left fun x _ => rfl).trans (List.map_id _)
  have hj : sJoin [.dat (.list kk 1 (sRow (w :: ws))), .dat (.str (ByteArray.mk (List.toArray [32])))] G = some (oS G (ba (J (w :: ws)))) := by
    simp only [sJoin]
    rw [rowStrs_sRow]
    simp only [List.map_cons] at e1 ⊢
    rw [if_pos]
    · simp only [List.map_cons, e1]
      rfl
    · refine ⟨hk, by simp only [List.length_cons, List.length_map] at h ⊢; omega, ?_⟩
      simp only [List.map_cons, e1]
      exact hl
  simp only [S16n, sJoinN]
  rw [hj]
/-! ### Line -/
theorem out6_inj : ∀ x y, out6 x = out6 y → x = y := by
  intro x y h
  simp [out6] at h
  exact h.2
theorem out7s_inj : ∀ x y, out7s x = out7s y → x = y := by
  intro x y h
  have h2 : (AV.dat (D.str x)) = AV.dat (D.str y) := congrArg (fun e : Ex × St => e.2.tmps.getD 4 .dead) h
  simpa using h2
theorem go6 {k : LK} {z : Nat} {l r : Row} {i : Int} {o} (h : (rk6 k z l r i).ev = o) : (tround TT t106 noLo (HSc 6) lp6 (inv6 k z l r i)).run = o := by
  rw [Tr.ev_run] at h
  exact h
theorem sRow_snoc (ws : List (List UInt8)) (w : List UInt8) : sRow (ws ++ [w]) = sRow ws ++ [[.str (ba w)]] := by simp [sRow]
theorem sRow_length (ws : List (List UInt8)) : (sRow ws).length = ws.length := by simp [sRow]
theorem loop6 {k : LK} {z : Nat} : ∀ (l pre : List Int) (W : List (List UInt8)), (pre ++ l).length ≤ 1000 → W.length + l.length ≤ 1900 → (∀ v ∈ l, fit64 v) → (pre ++ l ≠ [] → z = 1) →
    LoopTo TT t106.runs (HSc 6) lp6 (inv6 k z (encI (pre ++ l)) (sRow W) pre.length) (out6 (sRow (W ++ l.map Go.Lib.itoa)))
  | [], pre, W, _, _, _, _ => by
    refine LoopTo.last (orc := t106) (lo := noLo) (fun _ _ _ _ h => h) (LoOk2.no _) (go6 ?_) (by simp [out6])
    rw [rk6_eq, List.append_nil, encI_len, List.map_nil, List.append_nil]
    exact aF (by rw [decide_eq_false_iff_not]; omega) rfl
  | v :: l, pre, W, h, hW, hf, hz => by
    have hz1 := hz (by simp)
    have hlen : (encI (pre ++ v :: l)).length = pre.length + l.length + 1 := by
      rw [encI_len, List.length_append, List.length_cons]; omega
    have hl := h
    rw [List.length_append, List.length_cons] at hl
    rw [List.length_cons] at hW
    have hb : ((decide (z = 1)) && ((decide ((0 : Int) ≤ ((pre.length : Nat) : Int))) && (decide (((pre.length : Nat) : Int) < (((encI (pre ++ v :: l)).length : Nat) : Int))))) = true := by
      rw [Bool.and_eq_true, Bool.and_eq_true, decide_eq_true_eq, decide_eq_true_eq, decide_eq_true_eq]
      omega
    have step : (tround TT t106 noLo (HSc 6) lp6 (inv6 k z (encI (pre ++ v :: l)) (sRow W) pre.length)).run = some (.norm, inv6 k z (encI (pre ++ v :: l)) (sRow (W ++ [Go.Lib.itoa v])) ((pre.length + 1 : Nat) : Int)) := by
      refine go6 ?_
      rw [rk6_eq, w64 (n := pre.length + 1) (by omega) (x := ((pre.length : Nat) : Int) + 1) (by omega)]
      refine aT (by rw [decide_eq_true_eq]; omega) (aT hb (gStep (encI_at pre v l) (gStep rfl (gStep (fnS_eq (out := oS []) oS_inj (s13 (hf v (by simp)) [])) (aT ?_ (aT (by simp) ?_))))))
      · rw [Nat.zero_add, Bool.and_eq_true, fits_iff, sRow_length]
        exact ⟨decide_eq_true (Nat.le_refl _), by omega, by omega⟩
      · rw [inv6, sRow_snoc, List.length_append]
        rfl
    have ih := loop6 (k := k) (z := z) l (pre ++ [v]) (W ++ [Go.Lib.itoa v]) (by simpa using h) (by rw [List.length_append, List.length_singleton]; omega) (fun u hu => hf u (by simp [hu])) (fun _ => hz1)
    rw [show pre ++ [v] ++ l = pre ++ v :: l by simp, show List.length (pre ++ [v]) = pre.length + 1 by simp, List.append_assoc] at ih
    exact LoopTo.more (orc := t106) (lo := noLo) (fun _ _ _ _ h => h) (LoOk2.no _) step ih
theorem itoa_le {v : Int} (h : fit64 v) : (Go.Lib.itoa v).length ≤ 21 := by
  obtain ⟨h0, h1⟩ := h
  unfold Go.Lib.itoa
  split
  · have := dec_len_lt 19 v.natAbs (by omega)
    rw [List.length_cons]; omega
  · have := dec_len_lt 19 v.toNat (by omega)
    omega
theorem J_len : ∀ (W : List (List UInt8)) (m : Nat), (∀ w ∈ W, w.length ≤ m) → (J W).length ≤ (m + 1) * W.length
  | [], m, _ => by simp [J, Go.Lib.join]
  | [w], m, h => by
    rw [J_one]
    have := h w (by simp)
    simp only [List.length_singleton]
    omega
  | w :: v :: W, m, h => by
    have ih := J_len (v :: W) m fun u hu => h u (by simp [hu])
    have h1 := h w (by simp)
    rw [J_cons, List.length_append, List.length_cons]
    simp only [List.length_cons] at ih ⊢
    rw [Nat.mul_succ]
    omega
theorem short_le (l : List UInt8) : (shortB l).length ≤ 191 := by
  by_cases h : l.length = 64
  · exact (short_len h).1
  · unfold shortB
    rw [if_neg h]
    simp
theorem headV_le {x : An} (hf : fitA x) : (headV x).length ≤ 9 ∧ ∀ w ∈ headV x, w.length ≤ 200 := by
  obtain ⟨h1, h2, h3, _⟩ := hf
  have e1 := itoa_le h1
  have e2 := itoa_le h2
  have e3 := itoa_le h3
  have e4 := short_le x.data
  unfold headV secN secM secV secT
  constructor
  · split <;> split <;> split <;> split <;> simp
  · have c1 : wWhy.length ≤ 200 := by decide
    have c2 : wN.length ≤ 200 := by decide
    have c3 : wM.length ≤ 200 := by decide
    have c4 : wData.length ≤ 200 := by decide
    have c5 : wList.length ≤ 200 := by decide
    intro w hw
    split at hw <;> split at hw <;> split at hw <;> split at hw <;> simp at hw <;> (repeat' rcases hw with rfl | hw) <;> (try subst hw) <;> omega
def anX (x : An) (k : LK) (z : Nat) : AV := anV x.why x.n x.m (ba x.data) k z (encI x.list)
def oLn (G : List Ent) (p : ByteArray × Int) : AV × List Ent := (.tup [.dat (.str p.1), jn p.2], G)
def lnOf (o : Option (List UInt8)) : ByteArray × Int := match o with
  | some s => (ba s, 0)
  | none => (ba [], 6)
/-- the end of Line -/
theorem end6 {kk : LK} (hk : kk ≠ .nil) {x : An} {k : LK} {z : Nat} (hf : fitA x) (h60 : x.list.length ≤ 60) (hz : x.list ≠ [] → z = 1) (W : List (List UInt8)) (hW : headV x = W) :
    loS TT t106.runs (HSc 6) lp6 out6 (inv6 k z (encI x.list) (sRow W) 0) = some (sRow (W ++ x.list.map Go.Lib.itoa)) ∧
    fnS (oS []) (S16n [.dat (.list kk 1 (List.take (List.length (sRow (W ++ x.list.map Go.Lib.itoa))) (List.drop 0 (sRow (W ++ x.list.map Go.Lib.itoa))))), .dat (.str (ByteArray.mk (List.toArray [32])))] []) = some (ba (J (W ++ x.list.map Go.Lib.itoa))) := by
  have hh := headV_le hf
  rw [hW] at hh
  have hl := loop6 (k := k) (z := z) x.list [] W (by simp only [List.nil_append]; omega) (by omega) hf.2.2.2 (by simpa using hz)
  refine ⟨loS_eq (out := out6) out6_inj hl, fnS_eq (out := oS []) oS_inj (s16 hk ?_ ?_ ?_ [])⟩
  · rw [← hW]; simp [headV]
  · rw [List.length_append, List.length_map]; omega
  · have hj := J_len (W ++ x.list.map Go.Lib.itoa) 200 (by
      intro w hw
      rcases List.mem_append.1 hw with hw | hw
      · exact hh.2 w hw
      · obtain ⟨v, hv, rfl⟩ := List.mem_map.1 hw
        have := itoa_le (hf.2.2.2 v hv)
        omega)
    rw [List.length_append, List.length_map] at hj
    have : (W.length + x.list.length) ≤ 69 := by omega
    have := Nat.mul_le_mul_left (200 + 1) this
    omega
theorem isS {A : Type} {o : Option A} {x : A} (h : o = some x) : o.isSome = true := by rw [h]; rfl
theorem out6t_inj : ∀ x y, out6t x = out6t y → x = y := by
  intro x y h
  simp [out6t] at h
  exact h.2
theorem out6_no {y : Row} : ∀ x, out6 x ≠ out6t y := fun x h => by simp [out6, out6t, mkT] at h
theorem end6t {x : An} {k : LK} {z : Nat} (hl : x.list = []) (W : List (List UInt8)) :
    LoopTo TT t106.runs (HSc 6) lp6 ⟨mkT 0 85 [(4, .sh true 0 1 0 (sRow W).length), (71, .dat (.list k z (encI x.list))), (72, jn ((encI x.list).length : Nat)), (73, jn 0)], ⟨[some (.row .excl 1 (sRow W))], [], 0⟩⟩ (out6t (sRow W)) := by
  refine LoopTo.last (orc := t106) (lo := noLo) (fun _ _ _ _ h => h) (LoOk2.no _) ?_ (by simp [out6t])
  show (rk6t k z (encI x.list) (sRow W)).run = _
  rw [← Tr.ev_run, rk6t_eq, hl]
  exact aF rfl rfl
theorem okA_iff {x : An} : okA x = true ↔ 0 ≤ x.why ∧ x.why ≤ 22 ∧ (x.data = [] ∨ x.data.length = 64) ∧ x.list.length ≤ 60 := by
  unfold okA
  simp only [Bool.and_eq_true, Bool.or_eq_true, decide_eq_true_eq, and_assoc]
theorem ba_nil {d : List UInt8} : ((ba d).toList == []) = decide (d = []) := by
  rw [ba_list, Bool.eq_iff_iff, beq_iff_eq, decide_eq_true_eq]
theorem f6_run {x : An} {k : LK} {z : Nat} (hf : fitA x) (hz : x.list ≠ [] → z = 1) : R106 [anX x k z] [] = some (oLn [] (lnOf (lineP x))) := by
  have key : ∀ o, (f6t x.why x.n x.m (ba x.data) k z (encI x.list)).ev = o → R106 [anX x k z] [] = o := fun o h => by
    rw [Tr.ev_run] at h
    exact h
  refine key _ ?_
  rw [f6t_eq]
  have hx : (encI x.list).length = x.list.length := encI_len _
  have hoi := okA_iff (x := x)
  have e12 := fnS_eq (out := oB []) oB_inj (p12 x.data [])
  have e13 := fnS_eq (out := oS []) oS_inj (s13 hf.1 [])
  have en := fnS_eq (out := oS []) oS_inj (s14 hf.2.1 [])
  have em := fnS_eq (out := oS []) oS_inj (s14 hf.2.2.1 [])
  have ed := fnS_eq (out := oS []) oS_inj (p7' (l := x.data) (G := []))
  have bad : okA x = false → lineP x = none := fun h => by unfold lineP; rw [h]; rfl
  by_cases h1 : x.why < 0
  · rw [bad (by rw [Bool.eq_false_iff]; intro q; have := hoi.1 q; omega)]
    exact aT (decide_eq_true h1) rfl
  refine aF (decide_eq_false h1) ?_
  by_cases h2 : x.why > 22
  · rw [bad (by rw [Bool.eq_false_iff]; intro q; have := hoi.1 q; omega)]
    exact aT (decide_eq_true h2) rfl
  refine aF (decide_eq_false h2) ?_
  by_cases h0 : x.data = []
  · have hd0 : (!((ba x.data).toList == [])) = false := by rw [ba_nil, decide_eq_true h0]; rfl
    refine aF hd0 ?_
    by_cases h4 : x.list.length > 60
    · rw [bad (by rw [Bool.eq_false_iff]; intro q; have := hoi.1 q; omega)]
      exact aT (by rw [decide_eq_true_eq]; omega) rfl
    refine aF (by rw [decide_eq_false_iff_not]; omega) ?_
    have hok := hoi.2 ⟨by omega, by omega, .inl h0, by omega⟩
    have hj := J_line (x := x) (.inl h0)
    have hlp : lineP x = some (J (headV x ++ x.list.map Go.Lib.itoa)) := by unfold lineP; rw [if_pos hok, hj]
    rw [hlp]
    have hen := end6 (kk := .any) (by decide) (k := k) (z := z) hf (by omega) hz
    by_cases hn0 : x.n = 0
    · have hn : (x.n != 0) = false := by simp [hn0]
      by_cases hm0 : x.m = 0
      · have hm : (x.m != 0) = false := by simp [hm0]
        by_cases hl1 : x.list = []
        · have hl0 : decide ((((encI x.list).length : Nat) : Int) > 0) = false := by rw [hl1] at hx ⊢; rfl
          have hW : headV x = [wWhy, Go.Lib.itoa x.why] := by simp [headV, secN, secM, secV, secT, hn0, hm0, h0, hl1]
          have he := hen _ hW
          rw [hW]
          have ht := end6t (k := k) (z := z) hl1 [wWhy, Go.Lib.itoa x.why]
          have hq := (end6 (kk := .full) (by decide) (k := k) (z := z) hf (by omega) hz _ hW).2
          have hm2 : x.list.map Go.Lib.itoa = [] := by rw [hl1]; rfl
          rw [hm2, List.append_nil] at hq ⊢
          exact gStep e13 (aF hn (aF hm (aF hd0 (aF hl0 (aF (loS_no (o1 := out6) ht out6_no) (gStep (loS_eq (out := out6t) out6t_inj ht) (gStep hq rfl)))))))
        · have hl0 : decide ((((encI x.list).length : Nat) : Int) > 0) = true := by have := List.length_pos_iff.2 hl1; rw [decide_eq_true_eq]; omega
          have hW : headV x = [wWhy, Go.Lib.itoa x.why, wList] := by simp [headV, secN, secM, secV, secT, hn0, hm0, h0, hl1]
          have he := hen _ hW
          rw [hW]
          exact gStep e13 (aF hn (aF hm (aF hd0 (aT hl0 (aT (isS he.1) (gStep he.1 (gStep he.2 rfl)))))))
      · have hm : (x.m != 0) = true := by simp [hm0]
        by_cases hl1 : x.list = []
        · have hl0 : decide ((((encI x.list).length : Nat) : Int) > 0) = false := by rw [hl1] at hx ⊢; rfl
          have hW : headV x = [wWhy, Go.Lib.itoa x.why, wM, Go.Lib.itoa x.m] := by simp [headV, secN, secM, secV, secT, hn0, hm0, h0, hl1]
          have he := hen _ hW
          rw [hW]
          exact gStep e13 (aF hn (aT hm (gStep em (aF hd0 (aF hl0 (aT (isS he.1) (gStep he.1 (gStep he.2 rfl))))))))
        · have hl0 : decide ((((encI x.list).length : Nat) : Int) > 0) = true := by have := List.length_pos_iff.2 hl1; rw [decide_eq_true_eq]; omega
          have hW : headV x = [wWhy, Go.Lib.itoa x.why, wM, Go.Lib.itoa x.m, wList] := by simp [headV, secN, secM, secV, secT, hn0, hm0, h0, hl1]
          have he := hen _ hW
          rw [hW]
          exact gStep e13 (aF hn (aT hm (gStep em (aF hd0 (aT hl0 (aT (isS he.1) (gStep he.1 (gStep he.2 rfl))))))))
    · have hn : (x.n != 0) = true := by simp [hn0]
      by_cases hm0 : x.m = 0
      · have hm : (x.m != 0) = false := by simp [hm0]
        by_cases hl1 : x.list = []
        · have hl0 : decide ((((encI x.list).length : Nat) : Int) > 0) = false := by rw [hl1] at hx ⊢; rfl
          have hW : headV x = [wWhy, Go.Lib.itoa x.why, wN, Go.Lib.itoa x.n] := by simp [headV, secN, secM, secV, secT, hn0, hm0, h0, hl1]
          have he := hen _ hW
          rw [hW]
          exact gStep e13 (aT hn (gStep en (aF hm (aF hd0 (aF hl0 (aT (isS he.1) (gStep he.1 (gStep he.2 rfl))))))))
        · have hl0 : decide ((((encI x.list).length : Nat) : Int) > 0) = true := by have := List.length_pos_iff.2 hl1; rw [decide_eq_true_eq]; omega
          have hW : headV x = [wWhy, Go.Lib.itoa x.why, wN, Go.Lib.itoa x.n, wList] := by simp [headV, secN, secM, secV, secT, hn0, hm0, h0, hl1]
          have he := hen _ hW
          rw [hW]
          exact gStep e13 (aT hn (gStep en (aF hm (aF hd0 (aT hl0 (aT (isS he.1) (gStep he.1 (gStep he.2 rfl))))))))
      · have hm : (x.m != 0) = true := by simp [hm0]
        by_cases hl1 : x.list = []
        · have hl0 : decide ((((encI x.list).length : Nat) : Int) > 0) = false := by rw [hl1] at hx ⊢; rfl
          have hW : headV x = [wWhy, Go.Lib.itoa x.why, wN, Go.Lib.itoa x.n, wM, Go.Lib.itoa x.m] := by simp [headV, secN, secM, secV, secT, hn0, hm0, h0, hl1]
          have he := hen _ hW
          rw [hW]
          exact gStep e13 (aT hn (gStep en (aT hm (gStep em (aF hd0 (aF hl0 (aT (isS he.1) (gStep he.1 (gStep he.2 rfl)))))))))
        · have hl0 : decide ((((encI x.list).length : Nat) : Int) > 0) = true := by have := List.length_pos_iff.2 hl1; rw [decide_eq_true_eq]; omega
          have hW : headV x = [wWhy, Go.Lib.itoa x.why, wN, Go.Lib.itoa x.n, wM, Go.Lib.itoa x.m, wList] := by simp [headV, secN, secM, secV, secT, hn0, hm0, h0, hl1]
          have he := hen _ hW
          rw [hW]
          exact gStep e13 (aT hn (gStep en (aT hm (gStep em (aF hd0 (aT hl0 (aT (isS he.1) (gStep he.1 (gStep he.2 rfl)))))))))
  · have hd0 : (!((ba x.data).toList == [])) = true := by rw [ba_nil, decide_eq_false h0]; rfl
    refine aT hd0 (gStep e12 ?_)
    by_cases h3 : x.data.length = 64
    · refine aF (by rw [decide_eq_true h3]; rfl) ?_
      by_cases h4 : x.list.length > 60
      · rw [bad (by rw [Bool.eq_false_iff]; intro q; have := hoi.1 q; omega)]
        exact aT (by rw [decide_eq_true_eq]; omega) rfl
      refine aF (by rw [decide_eq_false_iff_not]; omega) ?_
      have hok := hoi.2 ⟨by omega, by omega, .inr h3, by omega⟩
      have hj := J_line (x := x) (.inr h3)
      have hlp : lineP x = some (J (headV x ++ x.list.map Go.Lib.itoa)) := by unfold lineP; rw [if_pos hok, hj]
      rw [hlp]
      have hen := end6 (kk := .any) (by decide) (k := k) (z := z) hf (by omega) hz
      by_cases hn0 : x.n = 0
      · have hn : (x.n != 0) = false := by simp [hn0]
        by_cases hm0 : x.m = 0
        · have hm : (x.m != 0) = false := by simp [hm0]
          by_cases hl1 : x.list = []
          · have hl0 : decide ((((encI x.list).length : Nat) : Int) > 0) = false := by rw [hl1] at hx ⊢; rfl
            have hW : headV x = [wWhy, Go.Lib.itoa x.why, wData, shortB x.data] := by simp [headV, secN, secM, secV, secT, hn0, hm0, h0, hl1]
            have he := hen _ hW
            rw [hW]
            exact gStep e13 (aF hn (aF hm (aT hd0 (gStep ed (aF hl0 (aT (isS he.1) (gStep he.1 (gStep he.2 rfl))))))))
          · have hl0 : decide ((((encI x.list).length : Nat) : Int) > 0) = true := by have := List.length_pos_iff.2 hl1; rw [decide_eq_true_eq]; omega
            have hW : headV x = [wWhy, Go.Lib.itoa x.why, wData, shortB x.data, wList] := by simp [headV, secN, secM, secV, secT, hn0, hm0, h0, hl1]
            have he := hen _ hW
            rw [hW]
            exact gStep e13 (aF hn (aF hm (aT hd0 (gStep ed (aT hl0 (aT (isS he.1) (gStep he.1 (gStep he.2 rfl))))))))
        · have hm : (x.m != 0) = true := by simp [hm0]
          by_cases hl1 : x.list = []
          · have hl0 : decide ((((encI x.list).length : Nat) : Int) > 0) = false := by rw [hl1] at hx ⊢; rfl
            have hW : headV x = [wWhy, Go.Lib.itoa x.why, wM, Go.Lib.itoa x.m, wData, shortB x.data] := by simp [headV, secN, secM, secV, secT, hn0, hm0, h0, hl1]
            have he := hen _ hW
            rw [hW]
            exact gStep e13 (aF hn (aT hm (gStep em (aT hd0 (gStep ed (aF hl0 (aT (isS he.1) (gStep he.1 (gStep he.2 rfl)))))))))
          · have hl0 : decide ((((encI x.list).length : Nat) : Int) > 0) = true := by have := List.length_pos_iff.2 hl1; rw [decide_eq_true_eq]; omega
            have hW : headV x = [wWhy, Go.Lib.itoa x.why, wM, Go.Lib.itoa x.m, wData, shortB x.data, wList] := by simp [headV, secN, secM, secV, secT, hn0, hm0, h0, hl1]
            have he := hen _ hW
            rw [hW]
            exact gStep e13 (aF hn (aT hm (gStep em (aT hd0 (gStep ed (aT hl0 (aT (isS he.1) (gStep he.1 (gStep he.2 rfl)))))))))
      · have hn : (x.n != 0) = true := by simp [hn0]
        by_cases hm0 : x.m = 0
        · have hm : (x.m != 0) = false := by simp [hm0]
          by_cases hl1 : x.list = []
          · have hl0 : decide ((((encI x.list).length : Nat) : Int) > 0) = false := by rw [hl1] at hx ⊢; rfl
            have hW : headV x = [wWhy, Go.Lib.itoa x.why, wN, Go.Lib.itoa x.n, wData, shortB x.data] := by simp [headV, secN, secM, secV, secT, hn0, hm0, h0, hl1]
            have he := hen _ hW
            rw [hW]
            exact gStep e13 (aT hn (gStep en (aF hm (aT hd0 (gStep ed (aF hl0 (aT (isS he.1) (gStep he.1 (gStep he.2 rfl)))))))))
          · have hl0 : decide ((((encI x.list).length : Nat) : Int) > 0) = true := by have := List.length_pos_iff.2 hl1; rw [decide_eq_true_eq]; omega
            have hW : headV x = [wWhy, Go.Lib.itoa x.why, wN, Go.Lib.itoa x.n, wData, shortB x.data, wList] := by simp [headV, secN, secM, secV, secT, hn0, hm0, h0, hl1]
            have he := hen _ hW
            rw [hW]
            exact gStep e13 (aT hn (gStep en (aF hm (aT hd0 (gStep ed (aT hl0 (aT (isS he.1) (gStep he.1 (gStep he.2 rfl)))))))))
        · have hm : (x.m != 0) = true := by simp [hm0]
          by_cases hl1 : x.list = []
          · have hl0 : decide ((((encI x.list).length : Nat) : Int) > 0) = false := by rw [hl1] at hx ⊢; rfl
            have hW : headV x = [wWhy, Go.Lib.itoa x.why, wN, Go.Lib.itoa x.n, wM, Go.Lib.itoa x.m, wData, shortB x.data] := by simp [headV, secN, secM, secV, secT, hn0, hm0, h0, hl1]
            have he := hen _ hW
            rw [hW]
            exact gStep e13 (aT hn (gStep en (aT hm (gStep em (aT hd0 (gStep ed (aF hl0 (aT (isS he.1) (gStep he.1 (gStep he.2 rfl))))))))))
          · have hl0 : decide ((((encI x.list).length : Nat) : Int) > 0) = true := by have := List.length_pos_iff.2 hl1; rw [decide_eq_true_eq]; omega
            have hW : headV x = [wWhy, Go.Lib.itoa x.why, wN, Go.Lib.itoa x.n, wM, Go.Lib.itoa x.m, wData, shortB x.data, wList] := by simp [headV, secN, secM, secV, secT, hn0, hm0, h0, hl1]
            have he := hen _ hW
            rw [hW]
            exact gStep e13 (aT hn (gStep en (aT hm (gStep em (aT hd0 (gStep ed (aT hl0 (aT (isS he.1) (gStep he.1 (gStep he.2 rfl))))))))))
    · rw [bad (by rw [Bool.eq_false_iff]; intro q; have := hoi.1 q; rcases this.2.2.1 with q | q; exact h0 q; exact h3 q)]
      exact aT (by rw [decide_eq_false h3]; rfl) rfl
end Go.Eng
end
