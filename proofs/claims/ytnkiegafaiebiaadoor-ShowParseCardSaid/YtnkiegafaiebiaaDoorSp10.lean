/- The table of types of this seat, and that it is right. -/
import Derived.Test.YtnkiegafaiebiaaDoorSp9
import Derived.Test.YtnkiegafaiebiaaDoorSp6
import Derived.Test.YtnkiegafaiebiaaDoorProg
import Derived.KernelRfl
section
namespace Go.Eng
open Go Go.Eng
set_option maxRecDepth 100000
def TTree : BT TI :=
  
  (.node 
  (.node 
  (.node 
  (.node 
  (.node 
  (.node 
  (.node .nil 1 ⟨.func, 1, 8, [.nilfn], false⟩ .nil) 2 ⟨.int .i64, 1, 8, [.dat (.int .i64 0)], true⟩ 
  (.node .nil 3 ⟨.int .i64, 1, 8, [.dat (.int .i64 0)], true⟩ .nil)) 4 ⟨.bool, 1, 1, [.dat (.bool false)], true⟩ 
  (.node 
  (.node .nil 5 ⟨.int .u8, 1, 1, [.dat (.int .u8 0)], true⟩ .nil) 6 ⟨.int .u8, 1, 1, [.dat (.int .u8 0)], true⟩ 
  (.node .nil 7 ⟨.struct [(0, 2), (1, 3), (2, 4), (3, 6)], 4, 24, [.dat (.int .i64 0), .dat (.int .i64 0), .dat (.bool false), .dat (.int .u8 0)], true⟩ .nil))) 8 ⟨.struct [(0, 2), (1, 3), (2, 4), (3, 6)], 4, 24, [.dat (.int .i64 0), .dat (.int .i64 0), .dat (.bool false), .dat (.int .u8 0)], true⟩ 
  (.node 
  (.node 
  (.node .nil 9 ⟨.str, 1, 16, [.dat (.str ⟨#[]⟩)], true⟩ .nil) 10 ⟨.str, 1, 16, [.dat (.str ⟨#[]⟩)], true⟩ 
  (.node .nil 11 ⟨.str, 1, 16, [.dat (.str ⟨#[]⟩)], true⟩ .nil)) 12 ⟨.int .u64, 1, 8, [.dat (.int .u64 0)], true⟩ 
  (.node 
  (.node .nil 13 ⟨.struct [(0, 9), (1, 12)], 2, 24, [.dat (.str ⟨#[]⟩), .dat (.int .u64 0)], false⟩ .nil) 14 ⟨.struct [(0, 9), (1, 12)], 2, 24, [.dat (.str ⟨#[]⟩), .dat (.int .u64 0)], false⟩ 
  (.node .nil 15 ⟨.ptr 129, 1, 8, [.nilp], false⟩ .nil)))) 16 ⟨.ptr 132, 1, 8, [.nilp], false⟩ 
  (.node 
  (.node 
  (.node 
  (.node .nil 17 ⟨.ptr 139, 1, 8, [.nilp], false⟩ .nil) 18 ⟨.struct [(0, 17)], 1, 8, [.nilp], false⟩ 
  (.node .nil 19 ⟨.struct [(0, 17)], 1, 8, [.nilp], false⟩ .nil)) 20 ⟨.iface, 1, 16, [.nili], false⟩ 
  (.node 
  (.node .nil 21 ⟨.int .i32, 1, 4, [.dat (.int .i32 0)], true⟩ .nil) 22 ⟨.int .i64, 1, 8, [.dat (.int .i64 0)], true⟩ 
  (.node .nil 23 ⟨.slice 3, 1, 24, [.dat (.list .nil 0 [])], false⟩ .nil))) 24 ⟨.struct [(0, 22), (1, 2), (2, 2), (3, 9), (4, 23)], 5, 64, [.dat (.int .i64 0), .dat (.int .i64 0), .dat (.int .i64 0), .dat (.str ⟨#[]⟩), .dat (.list .nil 0 [])], false⟩ 
  (.node 
  (.node 
  (.node .nil 25 ⟨.struct [(0, 22), (1, 2), (2, 2), (3, 9), (4, 23)], 5, 64, [.dat (.int .i64 0), .dat (.int .i64 0), .dat (.int .i64 0), .dat (.str ⟨#[]⟩), .dat (.list .nil 0 [])], false⟩ .nil) 26 ⟨.func, 1, 8, [.nilfn], false⟩ 
  (.node .nil 28 ⟨.func, 1, 8, [.nilfn], false⟩ .nil)) 30 ⟨.func, 1, 8, [.nilfn], false⟩ 
  (.node 
  (.node .nil 31 ⟨.func, 1, 8, [.nilfn], false⟩ .nil) 32 ⟨.func, 1, 8, [.nilfn], false⟩ 
  (.node .nil 33 ⟨.func, 1, 8, [.nilfn], false⟩ .nil))))) 34 ⟨.func, 1, 8, [.nilfn], false⟩ 
  (.node 
  (.node 
  (.node 
  (.node 
  (.node .nil 35 ⟨.func, 1, 8, [.nilfn], false⟩ .nil) 36 ⟨.slice 9, 1, 24, [.dat (.list .nil 0 [])], false⟩ 
  (.node .nil 37 ⟨.func, 1, 8, [.nilfn], false⟩ .nil)) 38 ⟨.func, 1, 8, [.nilfn], false⟩ 
  (.node 
  (.node .nil 39 ⟨.func, 1, 8, [.nilfn], false⟩ .nil) 40 ⟨.func, 1, 8, [.nilfn], false⟩ 
  (.node .nil 41 ⟨.func, 1, 8, [.nilfn], false⟩ .nil))) 42 ⟨.func, 1, 8, [.nilfn], false⟩ 
  (.node 
  (.node 
  (.node .nil 43 ⟨.func, 1, 8, [.nilfn], false⟩ .nil) 45 ⟨.func, 1, 8, [.nilfn], false⟩ 
  (.node .nil 46 ⟨.func, 1, 8, [.nilfn], false⟩ .nil)) 47 ⟨.func, 1, 8, [.nilfn], false⟩ 
  (.node 
  (.node .nil 48 ⟨.func, 1, 8, [.nilfn], false⟩ .nil) 49 ⟨.func, 1, 8, [.nilfn], false⟩ 
  (.node .nil 50 ⟨.func, 1, 8, [.nilfn], false⟩ .nil)))) 51 ⟨.func, 1, 8, [.nilfn], false⟩ 
  (.node 
  (.node 
  (.node 
  (.node .nil 52 ⟨.func, 1, 8, [.nilfn], false⟩ .nil) 53 ⟨.int .u64, 1, 8, [.dat (.int .u64 0)], true⟩ 
  (.node .nil 54 ⟨.slice 5, 1, 24, [.dat (.list .nil 0 [])], false⟩ .nil)) 55 ⟨.ptr 57, 1, 8, [.nilp], false⟩ 
  (.node 
  (.node .nil 56 ⟨.struct [(0, 55), (1, 54)], 2, 32, [.nilp, .dat (.list .nil 0 [])], false⟩ .nil) 57 ⟨.struct [(0, 55), (1, 54)], 2, 32, [.nilp, .dat (.list .nil 0 [])], false⟩ 
  (.node .nil 58 ⟨.func, 1, 8, [.nilfn], false⟩ .nil))) 59 ⟨.iface, 1, 16, [.nili], false⟩ 
  (.node 
  (.node 
  (.node .nil 60 ⟨.iface, 1, 16, [.nili], false⟩ .nil) 62 ⟨.func, 1, 8, [.nilfn], false⟩ 
  (.node .nil 63 ⟨.func, 1, 8, [.nilfn], false⟩ .nil)) 64 ⟨.int .u64, 1, 8, [.dat (.int .u64 0)], true⟩ 
  (.node 
  (.node .nil 65 ⟨.func, 1, 8, [.nilfn], false⟩ .nil) 66 ⟨.func, 1, 8, [.nilfn], false⟩ .nil))))) 68 ⟨.func, 1, 8, [.nilfn], false⟩ 
  (.node 
  (.node 
  (.node 
  (.node 
  (.node 
  (.node .nil 69 ⟨.func, 1, 8, [.nilfn], false⟩ .nil) 70 ⟨.arr 24 5, 24, 24, List.replicate 24 (.dat (.int .u8 0)), true⟩ 
  (.node .nil 71 ⟨.func, 1, 8, [.nilfn], false⟩ .nil)) 72 ⟨.func, 1, 8, [.nilfn], false⟩ 
  (.node 
  (.node .nil 74 ⟨.func, 1, 8, [.nilfn], false⟩ .nil) 75 ⟨.func, 1, 8, [.nilfn], false⟩ 
  (.node .nil 76 ⟨.ptr 5, 1, 8, [.nilp], false⟩ .nil))) 78 ⟨.func, 1, 8, [.nilfn], false⟩ 
  (.node 
  (.node 
  (.node .nil 79 ⟨.func, 1, 8, [.nilfn], false⟩ .nil) 80 ⟨.func, 1, 8, [.nilfn], false⟩ 
  (.node .nil 81 ⟨.func, 1, 8, [.nilfn], false⟩ .nil)) 82 ⟨.func, 1, 8, [.nilfn], false⟩ 
  (.node 
  (.node .nil 83 ⟨.func, 1, 8, [.nilfn], false⟩ .nil) 84 ⟨.arr 20 64, 20, 160, List.replicate 20 (.dat (.int .u64 0)), true⟩ 
  (.node .nil 85 ⟨.int .u32, 1, 4, [.dat (.int .u32 0)], true⟩ .nil)))) 86 ⟨.arr 65 5, 65, 65, List.replicate 65 (.dat (.int .u8 0)), true⟩ 
  (.node 
  (.node 
  (.node 
  (.node .nil 87 ⟨.func, 1, 8, [.nilfn], false⟩ .nil) 88 ⟨.func, 1, 8, [.nilfn], false⟩ 
  (.node .nil 90 ⟨.func, 1, 8, [.nilfn], false⟩ .nil)) 91 ⟨.func, 1, 8, [.nilfn], false⟩ 
  (.node 
  (.node .nil 92 ⟨.func, 1, 8, [.nilfn], false⟩ .nil) 94 ⟨.func, 1, 8, [.nilfn], false⟩ 
  (.node .nil 95 ⟨.func, 1, 8, [.nilfn], false⟩ .nil))) 96 ⟨.func, 1, 8, [.nilfn], false⟩ 
  (.node 
  (.node 
  (.node .nil 98 ⟨.func, 1, 8, [.nilfn], false⟩ .nil) 99 ⟨.func, 1, 8, [.nilfn], false⟩ 
  (.node .nil 100 ⟨.int .i64, 1, 8, [.dat (.int .i64 0)], true⟩ .nil)) 102 ⟨.func, 1, 8, [.nilfn], false⟩ 
  (.node 
  (.node .nil 103 ⟨.ptr 114, 1, 8, [.nilp], false⟩ .nil) 104 ⟨.func, 1, 8, [.nilfn], false⟩ 
  (.node .nil 105 ⟨.func, 1, 8, [.nilfn], false⟩ .nil))))) 107 ⟨.func, 1, 8, [.nilfn], false⟩ 
  (.node 
  (.node 
  (.node 
  (.node 
  (.node .nil 108 ⟨.func, 1, 8, [.nilfn], false⟩ .nil) 109 ⟨.func, 1, 8, [.nilfn], false⟩ 
  (.node .nil 110 ⟨.arr 32 5, 32, 32, List.replicate 32 (.dat (.int .u8 0)), true⟩ .nil)) 111 ⟨.arr 64 5, 64, 64, List.replicate 64 (.dat (.int .u8 0)), true⟩ 
  (.node 
  (.node .nil 112 ⟨.func, 1, 8, [.nilfn], false⟩ .nil) 113 ⟨.struct [(0, 9), (1, 9), (2, 60)], 3, 48, [.dat (.str ⟨#[]⟩), .dat (.str ⟨#[]⟩), .nili], false⟩ 
  (.node .nil 114 ⟨.struct [(0, 9), (1, 9), (2, 60)], 3, 48, [.dat (.str ⟨#[]⟩), .dat (.str ⟨#[]⟩), .nili], false⟩ .nil))) 115 ⟨.func, 1, 8, [.nilfn], false⟩ 
  (.node 
  (.node 
  (.node .nil 117 ⟨.func, 1, 8, [.nilfn], false⟩ .nil) 119 ⟨.func, 1, 8, [.nilfn], false⟩ 
  (.node .nil 120 ⟨.arr 256 5, 256, 256, List.replicate 256 (.dat (.int .u8 0)), true⟩ .nil)) 121 ⟨.struct [(0, 5), (1, 5)], 2, 2, [.dat (.int .u8 0), .dat (.int .u8 0)], true⟩ 
  (.node 
  (.node .nil 122 ⟨.struct [(0, 5), (1, 5)], 2, 2, [.dat (.int .u8 0), .dat (.int .u8 0)], true⟩ .nil) 123 ⟨.arr 16 122, 32, 32, List.replicate 32 (.dat (.int .u8 0)), true⟩ 
  (.node .nil 124 ⟨.func, 1, 8, [.nilfn], false⟩ .nil)))) 125 ⟨.ptr 127, 1, 8, [.nilp], false⟩ 
  (.node 
  (.node 
  (.node 
  (.node .nil 126 ⟨.struct [(0, 9)], 1, 16, [.dat (.str ⟨#[]⟩)], true⟩ .nil) 127 ⟨.struct [(0, 9)], 1, 16, [.dat (.str ⟨#[]⟩)], true⟩ 
  (.node .nil 128 ⟨.struct [(0, 17), (1, 17), (2, 17), (3, 9)], 4, 40, [.nilp, .nilp, .nilp, .dat (.str ⟨#[]⟩)], false⟩ .nil)) 129 ⟨.struct [(0, 17), (1, 17), (2, 17), (3, 9)], 4, 40, [.nilp, .nilp, .nilp, .dat (.str ⟨#[]⟩)], false⟩ 
  (.node 
  (.node .nil 130 ⟨.arr 0 16, 0, 0, [], false⟩ .nil) 131 ⟨.struct [(0, 130)], 0, 0, [], false⟩ 
  (.node .nil 132 ⟨.struct [(0, 130)], 0, 0, [], false⟩ .nil))) 133 ⟨.int .u8, 1, 1, [.dat (.int .u8 0)], true⟩ 
  (.node 
  (.node 
  (.node .nil 134 ⟨.int .u8, 1, 1, [.dat (.int .u8 0)], true⟩ .nil) 135 ⟨.func, 1, 8, [.nilfn], false⟩ 
  (.node .nil 136 ⟨.int .i32, 1, 4, [.dat (.int .i32 0)], true⟩ .nil)) 137 ⟨.int .i32, 1, 4, [.dat (.int .i32 0)], true⟩ 
  (.node 
  (.node .nil 138 ⟨.struct [(0, 12), (1, 12), (2, 85), (3, 133), (4, 5), (5, 5), (6, 134), (7, 135), (8, 76), (9, 136), (10, 137)], 11, 48, [.dat (.int .u64 0), .dat (.int .u64 0), .dat (.int .u32 0), .dat (.int .u8 0), .dat (.int .u8 0), .dat (.int .u8 0), .dat (.int .u8 0), .nilfn, .nilp, .dat (.int .i32 0), .dat (.int .i32 0)], false⟩ .nil) 139 ⟨.struct [(0, 12), (1, 12), (2, 85), (3, 133), (4, 5), (5, 5), (6, 134), (7, 135), (8, 76), (9, 136), (10, 137)], 11, 48, [.dat (.int .u64 0), .dat (.int .u64 0), .dat (.int .u32 0), .dat (.int .u8 0), .dat (.int .u8 0), .dat (.int .u8 0), .dat (.int .u8 0), .nilfn, .nilp, .dat (.int .i32 0), .dat (.int .i32 0)], false⟩ .nil))))))
def TT : Tab := fun t => TTree.get t
theorem TT_ok : TabOk Go.Proofs.Tryd.prog TT := fun _ _ h => BT.get_all (BT.all_ok (q := tyOk Go.Proofs.Tryd.prog) (show TTree.all (tyOk Go.Proofs.Tryd.prog) = true by kernel_rfl)) h
end Go.Eng
end
