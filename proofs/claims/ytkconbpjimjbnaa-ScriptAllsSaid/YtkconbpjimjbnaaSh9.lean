/- The table of types of this seat, and that it is right. -/
import Derived.Test.YtkconbpjimjbnaaSh8
import Derived.Test.YtkconbpjimjbnaaSh5
import Derived.Test.YtkconbpjimjbnaaProg
import Derived.KernelRfl
section
namespace Go.Eng
open Go Go.Eng
set_option maxRecDepth 100000
def TTree : BT TI :=
  
  (.node 
  (.node 
  (.node 
  (.node 
  (.node 
  (.node 
  (.node .nil 1 ⟨.func, 1, 8, [.nilfn], false⟩ .nil) 2 ⟨.int .i64, 1, 8, [.dat (.int .i64 0)], true⟩ 
  (.node .nil 3 ⟨.int .i64, 1, 8, [.dat (.int .i64 0)], true⟩ .nil)) 4 ⟨.bool, 1, 1, [.dat (.bool false)], true⟩ 
  (.node 
  (.node .nil 5 ⟨.int .u8, 1, 1, [.dat (.int .u8 0)], true⟩ .nil) 6 ⟨.int .u8, 1, 1, [.dat (.int .u8 0)], true⟩ .nil)) 7 ⟨.struct [(0, 2), (1, 3), (2, 4), (3, 6)], 4, 24, [.dat (.int .i64 0), .dat (.int .i64 0), .dat (.bool false), .dat (.int .u8 0)], true⟩ 
  (.node 
  (.node 
  (.node .nil 8 ⟨.struct [(0, 2), (1, 3), (2, 4), (3, 6)], 4, 24, [.dat (.int .i64 0), .dat (.int .i64 0), .dat (.bool false), .dat (.int .u8 0)], true⟩ .nil) 9 ⟨.str, 1, 16, [.dat (.str ⟨#[]⟩)], true⟩ 
  (.node .nil 10 ⟨.str, 1, 16, [.dat (.str ⟨#[]⟩)], true⟩ .nil)) 11 ⟨.str, 1, 16, [.dat (.str ⟨#[]⟩)], true⟩ 
  (.node 
  (.node .nil 12 ⟨.int .u64, 1, 8, [.dat (.int .u64 0)], true⟩ .nil) 13 ⟨.struct [(0, 9), (1, 12)], 2, 24, [.dat (.str ⟨#[]⟩), .dat (.int .u64 0)], false⟩ .nil))) 14 ⟨.struct [(0, 9), (1, 12)], 2, 24, [.dat (.str ⟨#[]⟩), .dat (.int .u64 0)], false⟩ 
  (.node 
  (.node 
  (.node 
  (.node .nil 15 ⟨.ptr 105, 1, 8, [.nilp], false⟩ .nil) 16 ⟨.ptr 108, 1, 8, [.nilp], false⟩ 
  (.node .nil 17 ⟨.ptr 117, 1, 8, [.nilp], false⟩ .nil)) 18 ⟨.struct [(0, 17)], 1, 8, [.nilp], false⟩ 
  (.node 
  (.node .nil 19 ⟨.struct [(0, 17)], 1, 8, [.nilp], false⟩ .nil) 20 ⟨.iface, 1, 16, [.nili], false⟩ .nil)) 21 ⟨.int .i32, 1, 4, [.dat (.int .i32 0)], true⟩ 
  (.node 
  (.node 
  (.node .nil 22 ⟨.slice 32, 1, 24, [.dat (.list .nil 0 [])], false⟩ .nil) 23 ⟨.func, 1, 8, [.nilfn], false⟩ 
  (.node .nil 24 ⟨.ptr 67, 1, 8, [.nilp], false⟩ .nil)) 25 ⟨.func, 1, 8, [.nilfn], false⟩ 
  (.node 
  (.node .nil 26 ⟨.ptr 29, 1, 8, [.nilp], false⟩ .nil) 27 ⟨.slice 38, 1, 24, [.dat (.list .nil 0 [])], false⟩ .nil)))) 28 ⟨.struct [(0, 27)], 1, 24, [.dat (.list .nil 0 [])], false⟩ 
  (.node 
  (.node 
  (.node 
  (.node 
  (.node .nil 29 ⟨.struct [(0, 27)], 1, 24, [.dat (.list .nil 0 [])], false⟩ .nil) 30 ⟨.int .i64, 1, 8, [.dat (.int .i64 0)], true⟩ 
  (.node .nil 31 ⟨.struct [(0, 3), (1, 3), (2, 3), (3, 30), (4, 2)], 5, 40, [.dat (.int .i64 0), .dat (.int .i64 0), .dat (.int .i64 0), .dat (.int .i64 0), .dat (.int .i64 0)], true⟩ .nil)) 32 ⟨.struct [(0, 3), (1, 3), (2, 3), (3, 30), (4, 2)], 5, 40, [.dat (.int .i64 0), .dat (.int .i64 0), .dat (.int .i64 0), .dat (.int .i64 0), .dat (.int .i64 0)], true⟩ 
  (.node 
  (.node .nil 33 ⟨.func, 1, 8, [.nilfn], false⟩ .nil) 35 ⟨.func, 1, 8, [.nilfn], false⟩ .nil)) 36 ⟨.func, 1, 8, [.nilfn], false⟩ 
  (.node 
  (.node 
  (.node .nil 37 ⟨.struct [(0, 2), (1, 3), (2, 3), (3, 30)], 4, 32, [.dat (.int .i64 0), .dat (.int .i64 0), .dat (.int .i64 0), .dat (.int .i64 0)], true⟩ .nil) 38 ⟨.struct [(0, 2), (1, 3), (2, 3), (3, 30)], 4, 32, [.dat (.int .i64 0), .dat (.int .i64 0), .dat (.int .i64 0), .dat (.int .i64 0)], true⟩ 
  (.node .nil 39 ⟨.func, 1, 8, [.nilfn], false⟩ .nil)) 40 ⟨.func, 1, 8, [.nilfn], false⟩ 
  (.node 
  (.node .nil 41 ⟨.func, 1, 8, [.nilfn], false⟩ .nil) 42 ⟨.slice 4, 1, 24, [.dat (.list .nil 0 [])], false⟩ .nil))) 43 ⟨.struct [(0, 3), (1, 3), (2, 3), (3, 3), (4, 9), (5, 3), (6, 42)], 7, 80, [.dat (.int .i64 0), .dat (.int .i64 0), .dat (.int .i64 0), .dat (.int .i64 0), .dat (.str ⟨#[]⟩), .dat (.int .i64 0), .dat (.list .nil 0 [])], false⟩ 
  (.node 
  (.node 
  (.node 
  (.node .nil 44 ⟨.struct [(0, 3), (1, 3), (2, 3), (3, 3), (4, 9), (5, 3), (6, 42)], 7, 80, [.dat (.int .i64 0), .dat (.int .i64 0), .dat (.int .i64 0), .dat (.int .i64 0), .dat (.str ⟨#[]⟩), .dat (.int .i64 0), .dat (.list .nil 0 [])], false⟩ .nil) 45 ⟨.slice 5, 1, 24, [.dat (.list .nil 0 [])], false⟩ 
  (.node .nil 47 ⟨.func, 1, 8, [.nilfn], false⟩ .nil)) 49 ⟨.func, 1, 8, [.nilfn], false⟩ 
  (.node 
  (.node .nil 50 ⟨.func, 1, 8, [.nilfn], false⟩ .nil) 52 ⟨.func, 1, 8, [.nilfn], false⟩ .nil)) 53 ⟨.slice 3, 1, 24, [.dat (.list .nil 0 [])], false⟩ 
  (.node 
  (.node 
  (.node .nil 54 ⟨.struct [(0, 30), (1, 2), (2, 2), (3, 9), (4, 53)], 5, 64, [.dat (.int .i64 0), .dat (.int .i64 0), .dat (.int .i64 0), .dat (.str ⟨#[]⟩), .dat (.list .nil 0 [])], false⟩ .nil) 55 ⟨.struct [(0, 30), (1, 2), (2, 2), (3, 9), (4, 53)], 5, 64, [.dat (.int .i64 0), .dat (.int .i64 0), .dat (.int .i64 0), .dat (.str ⟨#[]⟩), .dat (.list .nil 0 [])], false⟩ 
  (.node .nil 56 ⟨.func, 1, 8, [.nilfn], false⟩ .nil)) 57 ⟨.slice 44, 1, 24, [.dat (.list .nil 0 [])], false⟩ 
  (.node 
  (.node .nil 59 ⟨.func, 1, 8, [.nilfn], false⟩ .nil) 60 ⟨.func, 1, 8, [.nilfn], false⟩ .nil))))) 61 ⟨.func, 1, 8, [.nilfn], false⟩ 
  (.node 
  (.node 
  (.node 
  (.node 
  (.node 
  (.node .nil 62 ⟨.func, 1, 8, [.nilfn], false⟩ .nil) 63 ⟨.func, 1, 8, [.nilfn], false⟩ 
  (.node .nil 64 ⟨.func, 1, 8, [.nilfn], false⟩ .nil)) 65 ⟨.arr 16 2, 16, 128, List.replicate 16 (.dat (.int .i64 0)), true⟩ 
  (.node 
  (.node .nil 66 ⟨.struct [(0, 27), (1, 2), (2, 65)], 18, 160, [.dat (.list .nil 0 []), .dat (.int .i64 0), .dat (.int .i64 0), .dat (.int .i64 0), .dat (.int .i64 0), .dat (.int .i64 0), .dat (.int .i64 0), .dat (.int .i64 0), .dat (.int .i64 0), .dat (.int .i64 0), .dat (.int .i64 0), .dat (.int .i64 0), .dat (.int .i64 0), .dat (.int .i64 0), .dat (.int .i64 0), .dat (.int .i64 0), .dat (.int .i64 0), .dat (.int .i64 0)], false⟩ .nil) 67 ⟨.struct [(0, 27), (1, 2), (2, 65)], 18, 160, [.dat (.list .nil 0 []), .dat (.int .i64 0), .dat (.int .i64 0), .dat (.int .i64 0), .dat (.int .i64 0), .dat (.int .i64 0), .dat (.int .i64 0), .dat (.int .i64 0), .dat (.int .i64 0), .dat (.int .i64 0), .dat (.int .i64 0), .dat (.int .i64 0), .dat (.int .i64 0), .dat (.int .i64 0), .dat (.int .i64 0), .dat (.int .i64 0), .dat (.int .i64 0), .dat (.int .i64 0)], false⟩ .nil)) 68 ⟨.func, 1, 8, [.nilfn], false⟩ 
  (.node 
  (.node 
  (.node .nil 69 ⟨.func, 1, 8, [.nilfn], false⟩ .nil) 70 ⟨.arr 2 3, 2, 16, [.dat (.int .i64 0), .dat (.int .i64 0)], true⟩ 
  (.node .nil 71 ⟨.arr 5 70, 10, 80, [.dat (.int .i64 0), .dat (.int .i64 0), .dat (.int .i64 0), .dat (.int .i64 0), .dat (.int .i64 0), .dat (.int .i64 0), .dat (.int .i64 0), .dat (.int .i64 0), .dat (.int .i64 0), .dat (.int .i64 0)], true⟩ .nil)) 72 ⟨.func, 1, 8, [.nilfn], false⟩ 
  (.node 
  (.node .nil 73 ⟨.func, 1, 8, [.nilfn], false⟩ .nil) 74 ⟨.int .u64, 1, 8, [.dat (.int .u64 0)], true⟩ .nil))) 75 ⟨.func, 1, 8, [.nilfn], false⟩ 
  (.node 
  (.node 
  (.node 
  (.node .nil 76 ⟨.func, 1, 8, [.nilfn], false⟩ .nil) 77 ⟨.func, 1, 8, [.nilfn], false⟩ 
  (.node .nil 78 ⟨.func, 1, 8, [.nilfn], false⟩ .nil)) 79 ⟨.func, 1, 8, [.nilfn], false⟩ 
  (.node 
  (.node .nil 80 ⟨.ptr 84, 1, 8, [.nilp], false⟩ .nil) 81 ⟨.ptr 99, 1, 8, [.nilp], false⟩ .nil)) 82 ⟨.func, 1, 8, [.nilfn], false⟩ 
  (.node 
  (.node 
  (.node .nil 83 ⟨.struct [(0, 81), (1, 4)], 2, 16, [.nilp, .dat (.bool false)], false⟩ .nil) 84 ⟨.struct [(0, 81), (1, 4)], 2, 16, [.nilp, .dat (.bool false)], false⟩ 
  (.node .nil 85 ⟨.func, 1, 8, [.nilfn], false⟩ .nil)) 86 ⟨.func, 1, 8, [.nilfn], false⟩ 
  (.node 
  (.node .nil 87 ⟨.func, 1, 8, [.nilfn], false⟩ .nil) 88 ⟨.func, 1, 8, [.nilfn], false⟩ .nil)))) 89 ⟨.func, 1, 8, [.nilfn], false⟩ 
  (.node 
  (.node 
  (.node 
  (.node 
  (.node .nil 90 ⟨.ptr 92, 1, 8, [.nilp], false⟩ .nil) 91 ⟨.struct [(0, 45), (1, 3), (2, 30)], 3, 40, [.dat (.list .nil 0 []), .dat (.int .i64 0), .dat (.int .i64 0)], false⟩ 
  (.node .nil 92 ⟨.struct [(0, 45), (1, 3), (2, 30)], 3, 40, [.dat (.list .nil 0 []), .dat (.int .i64 0), .dat (.int .i64 0)], false⟩ .nil)) 93 ⟨.func, 1, 8, [.nilfn], false⟩ 
  (.node 
  (.node .nil 94 ⟨.func, 1, 8, [.nilfn], false⟩ .nil) 95 ⟨.func, 1, 8, [.nilfn], false⟩ .nil)) 96 ⟨.func, 1, 8, [.nilfn], false⟩ 
  (.node 
  (.node 
  (.node .nil 97 ⟨.int .u64, 1, 8, [.dat (.int .u64 0)], true⟩ .nil) 98 ⟨.struct [(0, 45), (1, 30)], 2, 32, [.dat (.list .nil 0 []), .dat (.int .i64 0)], false⟩ 
  (.node .nil 99 ⟨.struct [(0, 45), (1, 30)], 2, 32, [.dat (.list .nil 0 []), .dat (.int .i64 0)], false⟩ .nil)) 101 ⟨.func, 1, 8, [.nilfn], false⟩ 
  (.node 
  (.node .nil 102 ⟨.func, 1, 8, [.nilfn], false⟩ .nil) 103 ⟨.func, 1, 8, [.nilfn], false⟩ .nil))) 104 ⟨.struct [(0, 17), (1, 17), (2, 17), (3, 9)], 4, 40, [.nilp, .nilp, .nilp, .dat (.str ⟨#[]⟩)], false⟩ 
  (.node 
  (.node 
  (.node 
  (.node .nil 105 ⟨.struct [(0, 17), (1, 17), (2, 17), (3, 9)], 4, 40, [.nilp, .nilp, .nilp, .dat (.str ⟨#[]⟩)], false⟩ .nil) 106 ⟨.arr 0 16, 0, 0, [], false⟩ 
  (.node .nil 107 ⟨.struct [(0, 106)], 0, 0, [], false⟩ .nil)) 108 ⟨.struct [(0, 106)], 0, 0, [], false⟩ 
  (.node 
  (.node .nil 109 ⟨.int .u32, 1, 4, [.dat (.int .u32 0)], true⟩ .nil) 110 ⟨.int .u8, 1, 1, [.dat (.int .u8 0)], true⟩ .nil)) 111 ⟨.int .u8, 1, 1, [.dat (.int .u8 0)], true⟩ 
  (.node 
  (.node 
  (.node .nil 112 ⟨.func, 1, 8, [.nilfn], false⟩ .nil) 113 ⟨.ptr 5, 1, 8, [.nilp], false⟩ 
  (.node .nil 114 ⟨.int .i32, 1, 4, [.dat (.int .i32 0)], true⟩ .nil)) 115 ⟨.int .i32, 1, 4, [.dat (.int .i32 0)], true⟩ 
  (.node 
  (.node .nil 116 ⟨.struct [(0, 12), (1, 12), (2, 109), (3, 110), (4, 5), (5, 5), (6, 111), (7, 112), (8, 113), (9, 114), (10, 115)], 11, 48, [.dat (.int .u64 0), .dat (.int .u64 0), .dat (.int .u32 0), .dat (.int .u8 0), .dat (.int .u8 0), .dat (.int .u8 0), .dat (.int .u8 0), .nilfn, .nilp, .dat (.int .i32 0), .dat (.int .i32 0)], false⟩ .nil) 117 ⟨.struct [(0, 12), (1, 12), (2, 109), (3, 110), (4, 5), (5, 5), (6, 111), (7, 112), (8, 113), (9, 114), (10, 115)], 11, 48, [.dat (.int .u64 0), .dat (.int .u64 0), .dat (.int .u32 0), .dat (.int .u8 0), .dat (.int .u8 0), .dat (.int .u8 0), .dat (.int .u8 0), .nilfn, .nilp, .dat (.int .i32 0), .dat (.int .i32 0)], false⟩ .nil))))))
def TT : Tab := fun t => TTree.get t
theorem TT_ok : TabOk Go.Proofs.Try.prog TT := fun _ _ h => BT.get_all (BT.all_ok (q := tyOk Go.Proofs.Try.prog) (show TTree.all (tyOk Go.Proofs.Try.prog) = true by kernel_rfl)) h
end Go.Eng
end
