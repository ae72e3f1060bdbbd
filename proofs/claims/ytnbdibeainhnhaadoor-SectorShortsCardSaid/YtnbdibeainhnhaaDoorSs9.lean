/- The table of types of this seat, and that it is right. -/
import Derived.Test.YtnbdibeainhnhaaDoorSs8
import Derived.Test.YtnbdibeainhnhaaDoorSs5
import Derived.Test.YtnbdibeainhnhaaDoorProg
import Derived.KernelRfl
section
namespace Go.Eng
open Go Go.Eng
set_option maxRecDepth 100000
def TTree : BT TI :=
  
  (.node 
  (.node 
  (.node 
  (.node 
  (.node 
  (.node 
  (.node .nil 1 ⟨.func, 1, 8, [.nilfn], false⟩ .nil) 2 ⟨.int .i64, 1, 8, [.dat (.int .i64 0)], true⟩ 
  (.node .nil 3 ⟨.int .i64, 1, 8, [.dat (.int .i64 0)], true⟩ .nil)) 4 ⟨.bool, 1, 1, [.dat (.bool false)], true⟩ 
  (.node 
  (.node .nil 5 ⟨.int .u8, 1, 1, [.dat (.int .u8 0)], true⟩ .nil) 6 ⟨.int .u8, 1, 1, [.dat (.int .u8 0)], true⟩ 
  (.node .nil 7 ⟨.struct [(0, 2), (1, 3), (2, 4), (3, 6)], 4, 24, [.dat (.int .i64 0), .dat (.int .i64 0), .dat (.bool false), .dat (.int .u8 0)], true⟩ .nil))) 8 ⟨.struct [(0, 2), (1, 3), (2, 4), (3, 6)], 4, 24, [.dat (.int .i64 0), .dat (.int .i64 0), .dat (.bool false), .dat (.int .u8 0)], true⟩ 
  (.node 
  (.node 
  (.node .nil 9 ⟨.str, 1, 16, [.dat (.str ⟨#[]⟩)], true⟩ .nil) 10 ⟨.str, 1, 16, [.dat (.str ⟨#[]⟩)], true⟩ 
  (.node .nil 11 ⟨.str, 1, 16, [.dat (.str ⟨#[]⟩)], true⟩ .nil)) 12 ⟨.int .u64, 1, 8, [.dat (.int .u64 0)], true⟩ 
  (.node 
  (.node .nil 13 ⟨.struct [(0, 9), (1, 12)], 2, 24, [.dat (.str ⟨#[]⟩), .dat (.int .u64 0)], false⟩ .nil) 14 ⟨.struct [(0, 9), (1, 12)], 2, 24, [.dat (.str ⟨#[]⟩), .dat (.int .u64 0)], false⟩ .nil))) 15 ⟨.ptr 119, 1, 8, [.nilp], false⟩ 
  (.node 
  (.node 
  (.node 
  (.node .nil 16 ⟨.ptr 122, 1, 8, [.nilp], false⟩ .nil) 17 ⟨.ptr 129, 1, 8, [.nilp], false⟩ 
  (.node .nil 18 ⟨.struct [(0, 17)], 1, 8, [.nilp], false⟩ .nil)) 19 ⟨.struct [(0, 17)], 1, 8, [.nilp], false⟩ 
  (.node 
  (.node .nil 20 ⟨.iface, 1, 16, [.nili], false⟩ .nil) 21 ⟨.int .i32, 1, 4, [.dat (.int .i32 0)], true⟩ 
  (.node .nil 22 ⟨.func, 1, 8, [.nilfn], false⟩ .nil))) 23 ⟨.func, 1, 8, [.nilfn], false⟩ 
  (.node 
  (.node 
  (.node .nil 24 ⟨.int .i64, 1, 8, [.dat (.int .i64 0)], true⟩ .nil) 26 ⟨.func, 1, 8, [.nilfn], false⟩ 
  (.node .nil 27 ⟨.func, 1, 8, [.nilfn], false⟩ .nil)) 28 ⟨.func, 1, 8, [.nilfn], false⟩ 
  (.node 
  (.node .nil 29 ⟨.int .u64, 1, 8, [.dat (.int .u64 0)], true⟩ .nil) 30 ⟨.func, 1, 8, [.nilfn], false⟩ .nil)))) 31 ⟨.func, 1, 8, [.nilfn], false⟩ 
  (.node 
  (.node 
  (.node 
  (.node 
  (.node .nil 32 ⟨.func, 1, 8, [.nilfn], false⟩ .nil) 33 ⟨.func, 1, 8, [.nilfn], false⟩ 
  (.node .nil 35 ⟨.func, 1, 8, [.nilfn], false⟩ .nil)) 36 ⟨.slice 9, 1, 24, [.dat (.list .nil 0 [])], false⟩ 
  (.node 
  (.node .nil 37 ⟨.func, 1, 8, [.nilfn], false⟩ .nil) 38 ⟨.func, 1, 8, [.nilfn], false⟩ 
  (.node .nil 39 ⟨.func, 1, 8, [.nilfn], false⟩ .nil))) 40 ⟨.int .u64, 1, 8, [.dat (.int .u64 0)], true⟩ 
  (.node 
  (.node 
  (.node .nil 41 ⟨.slice 5, 1, 24, [.dat (.list .nil 0 [])], false⟩ .nil) 42 ⟨.func, 1, 8, [.nilfn], false⟩ 
  (.node .nil 43 ⟨.func, 1, 8, [.nilfn], false⟩ .nil)) 44 ⟨.func, 1, 8, [.nilfn], false⟩ 
  (.node 
  (.node .nil 46 ⟨.func, 1, 8, [.nilfn], false⟩ .nil) 47 ⟨.func, 1, 8, [.nilfn], false⟩ .nil))) 48 ⟨.func, 1, 8, [.nilfn], false⟩ 
  (.node 
  (.node 
  (.node 
  (.node .nil 49 ⟨.func, 1, 8, [.nilfn], false⟩ .nil) 50 ⟨.func, 1, 8, [.nilfn], false⟩ 
  (.node .nil 51 ⟨.func, 1, 8, [.nilfn], false⟩ .nil)) 52 ⟨.func, 1, 8, [.nilfn], false⟩ 
  (.node 
  (.node .nil 53 ⟨.ptr 55, 1, 8, [.nilp], false⟩ .nil) 54 ⟨.struct [(0, 53), (1, 41)], 2, 32, [.nilp, .dat (.list .nil 0 [])], false⟩ .nil)) 55 ⟨.struct [(0, 53), (1, 41)], 2, 32, [.nilp, .dat (.list .nil 0 [])], false⟩ 
  (.node 
  (.node 
  (.node .nil 56 ⟨.func, 1, 8, [.nilfn], false⟩ .nil) 57 ⟨.iface, 1, 16, [.nili], false⟩ 
  (.node .nil 58 ⟨.iface, 1, 16, [.nili], false⟩ .nil)) 60 ⟨.func, 1, 8, [.nilfn], false⟩ 
  (.node 
  (.node .nil 61 ⟨.func, 1, 8, [.nilfn], false⟩ .nil) 63 ⟨.func, 1, 8, [.nilfn], false⟩ .nil))))) 64 ⟨.func, 1, 8, [.nilfn], false⟩ 
  (.node 
  (.node 
  (.node 
  (.node 
  (.node 
  (.node .nil 65 ⟨.func, 1, 8, [.nilfn], false⟩ .nil) 67 ⟨.func, 1, 8, [.nilfn], false⟩ 
  (.node .nil 68 ⟨.func, 1, 8, [.nilfn], false⟩ .nil)) 69 ⟨.func, 1, 8, [.nilfn], false⟩ 
  (.node 
  (.node .nil 70 ⟨.func, 1, 8, [.nilfn], false⟩ .nil) 71 ⟨.ptr 5, 1, 8, [.nilp], false⟩ 
  (.node .nil 72 ⟨.func, 1, 8, [.nilfn], false⟩ .nil))) 73 ⟨.func, 1, 8, [.nilfn], false⟩ 
  (.node 
  (.node 
  (.node .nil 74 ⟨.func, 1, 8, [.nilfn], false⟩ .nil) 75 ⟨.int .u32, 1, 4, [.dat (.int .u32 0)], true⟩ 
  (.node .nil 77 ⟨.func, 1, 8, [.nilfn], false⟩ .nil)) 79 ⟨.func, 1, 8, [.nilfn], false⟩ 
  (.node 
  (.node .nil 80 ⟨.arr 24 5, 24, 24, List.replicate 24 (.dat (.int .u8 0)), true⟩ .nil) 81 ⟨.func, 1, 8, [.nilfn], false⟩ .nil))) 82 ⟨.func, 1, 8, [.nilfn], false⟩ 
  (.node 
  (.node 
  (.node 
  (.node .nil 84 ⟨.func, 1, 8, [.nilfn], false⟩ .nil) 86 ⟨.func, 1, 8, [.nilfn], false⟩ 
  (.node .nil 87 ⟨.func, 1, 8, [.nilfn], false⟩ .nil)) 89 ⟨.func, 1, 8, [.nilfn], false⟩ 
  (.node 
  (.node .nil 90 ⟨.int .i64, 1, 8, [.dat (.int .i64 0)], true⟩ .nil) 92 ⟨.func, 1, 8, [.nilfn], false⟩ .nil)) 93 ⟨.ptr 104, 1, 8, [.nilp], false⟩ 
  (.node 
  (.node 
  (.node .nil 94 ⟨.func, 1, 8, [.nilfn], false⟩ .nil) 95 ⟨.func, 1, 8, [.nilfn], false⟩ 
  (.node .nil 96 ⟨.func, 1, 8, [.nilfn], false⟩ .nil)) 97 ⟨.func, 1, 8, [.nilfn], false⟩ 
  (.node 
  (.node .nil 98 ⟨.arr 20 29, 20, 160, List.replicate 20 (.dat (.int .u64 0)), true⟩ .nil) 99 ⟨.arr 65 5, 65, 65, List.replicate 65 (.dat (.int .u8 0)), true⟩ .nil)))) 100 ⟨.func, 1, 8, [.nilfn], false⟩ 
  (.node 
  (.node 
  (.node 
  (.node 
  (.node .nil 102 ⟨.func, 1, 8, [.nilfn], false⟩ .nil) 103 ⟨.struct [(0, 9), (1, 9), (2, 58)], 3, 48, [.dat (.str ⟨#[]⟩), .dat (.str ⟨#[]⟩), .nili], false⟩ 
  (.node .nil 104 ⟨.struct [(0, 9), (1, 9), (2, 58)], 3, 48, [.dat (.str ⟨#[]⟩), .dat (.str ⟨#[]⟩), .nili], false⟩ .nil)) 105 ⟨.func, 1, 8, [.nilfn], false⟩ 
  (.node 
  (.node .nil 106 ⟨.func, 1, 8, [.nilfn], false⟩ .nil) 107 ⟨.arr 256 5, 256, 256, List.replicate 256 (.dat (.int .u8 0)), true⟩ 
  (.node .nil 108 ⟨.struct [(0, 5), (1, 5)], 2, 2, [.dat (.int .u8 0), .dat (.int .u8 0)], true⟩ .nil))) 109 ⟨.struct [(0, 5), (1, 5)], 2, 2, [.dat (.int .u8 0), .dat (.int .u8 0)], true⟩ 
  (.node 
  (.node 
  (.node .nil 110 ⟨.arr 16 109, 32, 32, List.replicate 32 (.dat (.int .u8 0)), true⟩ .nil) 111 ⟨.func, 1, 8, [.nilfn], false⟩ 
  (.node .nil 112 ⟨.func, 1, 8, [.nilfn], false⟩ .nil)) 113 ⟨.ptr 115, 1, 8, [.nilp], false⟩ 
  (.node 
  (.node .nil 114 ⟨.struct [(0, 9)], 1, 16, [.dat (.str ⟨#[]⟩)], true⟩ .nil) 115 ⟨.struct [(0, 9)], 1, 16, [.dat (.str ⟨#[]⟩)], true⟩ .nil))) 116 ⟨.arr 32 5, 32, 32, List.replicate 32 (.dat (.int .u8 0)), true⟩ 
  (.node 
  (.node 
  (.node 
  (.node .nil 117 ⟨.arr 64 5, 64, 64, List.replicate 64 (.dat (.int .u8 0)), true⟩ .nil) 118 ⟨.struct [(0, 17), (1, 17), (2, 17), (3, 9)], 4, 40, [.nilp, .nilp, .nilp, .dat (.str ⟨#[]⟩)], false⟩ 
  (.node .nil 119 ⟨.struct [(0, 17), (1, 17), (2, 17), (3, 9)], 4, 40, [.nilp, .nilp, .nilp, .dat (.str ⟨#[]⟩)], false⟩ .nil)) 120 ⟨.arr 0 16, 0, 0, [], false⟩ 
  (.node 
  (.node .nil 121 ⟨.struct [(0, 120)], 0, 0, [], false⟩ .nil) 122 ⟨.struct [(0, 120)], 0, 0, [], false⟩ .nil)) 123 ⟨.int .u8, 1, 1, [.dat (.int .u8 0)], true⟩ 
  (.node 
  (.node 
  (.node .nil 124 ⟨.int .u8, 1, 1, [.dat (.int .u8 0)], true⟩ .nil) 125 ⟨.func, 1, 8, [.nilfn], false⟩ 
  (.node .nil 126 ⟨.int .i32, 1, 4, [.dat (.int .i32 0)], true⟩ .nil)) 127 ⟨.int .i32, 1, 4, [.dat (.int .i32 0)], true⟩ 
  (.node 
  (.node .nil 128 ⟨.struct [(0, 12), (1, 12), (2, 75), (3, 123), (4, 5), (5, 5), (6, 124), (7, 125), (8, 71), (9, 126), (10, 127)], 11, 48, [.dat (.int .u64 0), .dat (.int .u64 0), .dat (.int .u32 0), .dat (.int .u8 0), .dat (.int .u8 0), .dat (.int .u8 0), .dat (.int .u8 0), .nilfn, .nilp, .dat (.int .i32 0), .dat (.int .i32 0)], false⟩ .nil) 129 ⟨.struct [(0, 12), (1, 12), (2, 75), (3, 123), (4, 5), (5, 5), (6, 124), (7, 125), (8, 71), (9, 126), (10, 127)], 11, 48, [.dat (.int .u64 0), .dat (.int .u64 0), .dat (.int .u32 0), .dat (.int .u8 0), .dat (.int .u8 0), .dat (.int .u8 0), .dat (.int .u8 0), .nilfn, .nilp, .dat (.int .i32 0), .dat (.int .i32 0)], false⟩ .nil))))))
def TT : Tab := fun t => TTree.get t
theorem TT_ok : TabOk Go.Proofs.Tryd.prog TT := fun _ _ h => BT.get_all (BT.all_ok (q := tyOk Go.Proofs.Tryd.prog) (show TTree.all (tyOk Go.Proofs.Tryd.prog) = true by kernel_rfl)) h
end Go.Eng
end
