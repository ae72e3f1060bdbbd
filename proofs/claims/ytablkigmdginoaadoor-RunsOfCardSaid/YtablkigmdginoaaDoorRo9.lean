/- The table of types of this seat, and that it is right. -/
import Derived.Test.YtablkigmdginoaaDoorRo8
import Derived.Test.YtablkigmdginoaaDoorRo5
import Derived.Test.YtablkigmdginoaaDoorProg
import Derived.KernelRfl
section
namespace Go.Eng
open Go Go.Eng
set_option maxRecDepth 100000
def TTree : BT TI :=
  
  (.node 
  (.node 
  (.node 
  (.node 
  (.node 
  (.node 
  (.node 
  (.node .nil 1 ⟨.func, 1, 8, [.nilfn], false⟩ .nil) 2 ⟨.int .i64, 1, 8, [.dat (.int .i64 0)], true⟩ .nil) 3 ⟨.int .i64, 1, 8, [.dat (.int .i64 0)], true⟩ 
  (.node .nil 4 ⟨.bool, 1, 1, [.dat (.bool false)], true⟩ .nil)) 5 ⟨.int .u8, 1, 1, [.dat (.int .u8 0)], true⟩ 
  (.node 
  (.node .nil 6 ⟨.int .u8, 1, 1, [.dat (.int .u8 0)], true⟩ .nil) 7 ⟨.struct [(0, 2), (1, 3), (2, 4), (3, 6)], 4, 24, [.dat (.int .i64 0), .dat (.int .i64 0), .dat (.bool false), .dat (.int .u8 0)], true⟩ 
  (.node .nil 8 ⟨.struct [(0, 2), (1, 3), (2, 4), (3, 6)], 4, 24, [.dat (.int .i64 0), .dat (.int .i64 0), .dat (.bool false), .dat (.int .u8 0)], true⟩ .nil))) 9 ⟨.str, 1, 16, [.dat (.str ⟨#[]⟩)], true⟩ 
  (.node 
  (.node 
  (.node 
  (.node .nil 10 ⟨.str, 1, 16, [.dat (.str ⟨#[]⟩)], true⟩ .nil) 11 ⟨.str, 1, 16, [.dat (.str ⟨#[]⟩)], true⟩ .nil) 12 ⟨.int .u64, 1, 8, [.dat (.int .u64 0)], true⟩ 
  (.node .nil 13 ⟨.struct [(0, 9), (1, 12)], 2, 24, [.dat (.str ⟨#[]⟩), .dat (.int .u64 0)], false⟩ .nil)) 14 ⟨.struct [(0, 9), (1, 12)], 2, 24, [.dat (.str ⟨#[]⟩), .dat (.int .u64 0)], false⟩ 
  (.node 
  (.node .nil 15 ⟨.ptr 137, 1, 8, [.nilp], false⟩ .nil) 16 ⟨.ptr 140, 1, 8, [.nilp], false⟩ 
  (.node .nil 17 ⟨.ptr 148, 1, 8, [.nilp], false⟩ .nil)))) 18 ⟨.struct [(0, 17)], 1, 8, [.nilp], false⟩ 
  (.node 
  (.node 
  (.node 
  (.node 
  (.node .nil 19 ⟨.struct [(0, 17)], 1, 8, [.nilp], false⟩ .nil) 20 ⟨.iface, 1, 16, [.nili], false⟩ .nil) 21 ⟨.int .i32, 1, 4, [.dat (.int .i32 0)], true⟩ 
  (.node .nil 22 ⟨.slice 46, 1, 24, [.dat (.list .nil 0 [])], false⟩ .nil)) 23 ⟨.func, 1, 8, [.nilfn], false⟩ 
  (.node 
  (.node .nil 24 ⟨.int .u64, 1, 8, [.dat (.int .u64 0)], true⟩ .nil) 25 ⟨.arr 2 24, 2, 16, [.dat (.int .u64 0), .dat (.int .u64 0)], true⟩ 
  (.node .nil 26 ⟨.arr 2 24, 2, 16, [.dat (.int .u64 0), .dat (.int .u64 0)], true⟩ .nil))) 27 ⟨.int .i64, 1, 8, [.dat (.int .i64 0)], true⟩ 
  (.node 
  (.node 
  (.node .nil 29 ⟨.func, 1, 8, [.nilfn], false⟩ .nil) 30 ⟨.slice 47, 1, 24, [.dat (.list .nil 0 [])], false⟩ 
  (.node .nil 31 ⟨.func, 1, 8, [.nilfn], false⟩ .nil)) 32 ⟨.arr 2 24, 2, 16, [.dat (.int .u64 0), .dat (.int .u64 0)], true⟩ 
  (.node 
  (.node .nil 34 ⟨.func, 1, 8, [.nilfn], false⟩ .nil) 35 ⟨.func, 1, 8, [.nilfn], false⟩ 
  (.node .nil 36 ⟨.func, 1, 8, [.nilfn], false⟩ .nil))))) 37 ⟨.func, 1, 8, [.nilfn], false⟩ 
  (.node 
  (.node 
  (.node 
  (.node 
  (.node 
  (.node .nil 38 ⟨.func, 1, 8, [.nilfn], false⟩ .nil) 39 ⟨.func, 1, 8, [.nilfn], false⟩ .nil) 40 ⟨.func, 1, 8, [.nilfn], false⟩ 
  (.node .nil 41 ⟨.func, 1, 8, [.nilfn], false⟩ .nil)) 42 ⟨.func, 1, 8, [.nilfn], false⟩ 
  (.node 
  (.node .nil 43 ⟨.func, 1, 8, [.nilfn], false⟩ .nil) 44 ⟨.func, 1, 8, [.nilfn], false⟩ 
  (.node .nil 45 ⟨.struct [(0, 3), (1, 3)], 2, 16, [.dat (.int .i64 0), .dat (.int .i64 0)], true⟩ .nil))) 46 ⟨.struct [(0, 3), (1, 3)], 2, 16, [.dat (.int .i64 0), .dat (.int .i64 0)], true⟩ 
  (.node 
  (.node 
  (.node .nil 47 ⟨.struct [(0, 3), (1, 3)], 2, 16, [.dat (.int .i64 0), .dat (.int .i64 0)], true⟩ .nil) 48 ⟨.func, 1, 8, [.nilfn], false⟩ 
  (.node .nil 49 ⟨.func, 1, 8, [.nilfn], false⟩ .nil)) 50 ⟨.func, 1, 8, [.nilfn], false⟩ 
  (.node 
  (.node .nil 51 ⟨.func, 1, 8, [.nilfn], false⟩ .nil) 52 ⟨.func, 1, 8, [.nilfn], false⟩ 
  (.node .nil 53 ⟨.func, 1, 8, [.nilfn], false⟩ .nil)))) 54 ⟨.slice 9, 1, 24, [.dat (.list .nil 0 [])], false⟩ 
  (.node 
  (.node 
  (.node 
  (.node 
  (.node .nil 55 ⟨.func, 1, 8, [.nilfn], false⟩ .nil) 57 ⟨.func, 1, 8, [.nilfn], false⟩ .nil) 59 ⟨.func, 1, 8, [.nilfn], false⟩ 
  (.node .nil 60 ⟨.func, 1, 8, [.nilfn], false⟩ .nil)) 61 ⟨.func, 1, 8, [.nilfn], false⟩ 
  (.node 
  (.node .nil 62 ⟨.func, 1, 8, [.nilfn], false⟩ .nil) 63 ⟨.func, 1, 8, [.nilfn], false⟩ 
  (.node .nil 64 ⟨.func, 1, 8, [.nilfn], false⟩ .nil))) 65 ⟨.func, 1, 8, [.nilfn], false⟩ 
  (.node 
  (.node 
  (.node .nil 66 ⟨.func, 1, 8, [.nilfn], false⟩ .nil) 67 ⟨.slice 4, 1, 24, [.dat (.list .nil 0 [])], false⟩ 
  (.node .nil 68 ⟨.func, 1, 8, [.nilfn], false⟩ .nil)) 69 ⟨.func, 1, 8, [.nilfn], false⟩ 
  (.node 
  (.node .nil 70 ⟨.func, 1, 8, [.nilfn], false⟩ .nil) 72 ⟨.func, 1, 8, [.nilfn], false⟩ 
  (.node .nil 73 ⟨.iface, 1, 16, [.nili], false⟩ .nil)))))) 74 ⟨.iface, 1, 16, [.nili], false⟩ 
  (.node 
  (.node 
  (.node 
  (.node 
  (.node 
  (.node 
  (.node .nil 76 ⟨.func, 1, 8, [.nilfn], false⟩ .nil) 77 ⟨.func, 1, 8, [.nilfn], false⟩ .nil) 78 ⟨.slice 3, 1, 24, [.dat (.list .nil 0 [])], false⟩ 
  (.node .nil 79 ⟨.func, 1, 8, [.nilfn], false⟩ .nil)) 80 ⟨.ptr 83, 1, 8, [.nilp], false⟩ 
  (.node 
  (.node .nil 81 ⟨.slice 5, 1, 24, [.dat (.list .nil 0 [])], false⟩ .nil) 82 ⟨.struct [(0, 80), (1, 81)], 2, 32, [.nilp, .dat (.list .nil 0 [])], false⟩ 
  (.node .nil 83 ⟨.struct [(0, 80), (1, 81)], 2, 32, [.nilp, .dat (.list .nil 0 [])], false⟩ .nil))) 84 ⟨.func, 1, 8, [.nilfn], false⟩ 
  (.node 
  (.node 
  (.node .nil 85 ⟨.func, 1, 8, [.nilfn], false⟩ .nil) 86 ⟨.int .u64, 1, 8, [.dat (.int .u64 0)], true⟩ 
  (.node .nil 87 ⟨.func, 1, 8, [.nilfn], false⟩ .nil)) 88 ⟨.func, 1, 8, [.nilfn], false⟩ 
  (.node 
  (.node .nil 89 ⟨.func, 1, 8, [.nilfn], false⟩ .nil) 90 ⟨.func, 1, 8, [.nilfn], false⟩ 
  (.node .nil 91 ⟨.func, 1, 8, [.nilfn], false⟩ .nil)))) 92 ⟨.func, 1, 8, [.nilfn], false⟩ 
  (.node 
  (.node 
  (.node 
  (.node 
  (.node .nil 93 ⟨.ptr 5, 1, 8, [.nilp], false⟩ .nil) 94 ⟨.func, 1, 8, [.nilfn], false⟩ .nil) 96 ⟨.func, 1, 8, [.nilfn], false⟩ 
  (.node .nil 97 ⟨.func, 1, 8, [.nilfn], false⟩ .nil)) 98 ⟨.int .i64, 1, 8, [.dat (.int .i64 0)], true⟩ 
  (.node 
  (.node .nil 100 ⟨.func, 1, 8, [.nilfn], false⟩ .nil) 101 ⟨.ptr 117, 1, 8, [.nilp], false⟩ 
  (.node .nil 102 ⟨.func, 1, 8, [.nilfn], false⟩ .nil))) 103 ⟨.func, 1, 8, [.nilfn], false⟩ 
  (.node 
  (.node 
  (.node .nil 104 ⟨.arr 64 5, 64, 64, List.replicate 64 (.dat (.int .u8 0)), true⟩ .nil) 105 ⟨.arr 24 5, 24, 24, List.replicate 24 (.dat (.int .u8 0)), true⟩ 
  (.node .nil 106 ⟨.func, 1, 8, [.nilfn], false⟩ .nil)) 108 ⟨.func, 1, 8, [.nilfn], false⟩ 
  (.node 
  (.node .nil 110 ⟨.func, 1, 8, [.nilfn], false⟩ .nil) 111 ⟨.func, 1, 8, [.nilfn], false⟩ 
  (.node .nil 112 ⟨.func, 1, 8, [.nilfn], false⟩ .nil))))) 114 ⟨.func, 1, 8, [.nilfn], false⟩ 
  (.node 
  (.node 
  (.node 
  (.node 
  (.node 
  (.node .nil 115 ⟨.func, 1, 8, [.nilfn], false⟩ .nil) 116 ⟨.struct [(0, 9), (1, 9), (2, 74)], 3, 48, [.dat (.str ⟨#[]⟩), .dat (.str ⟨#[]⟩), .nili], false⟩ .nil) 117 ⟨.struct [(0, 9), (1, 9), (2, 74)], 3, 48, [.dat (.str ⟨#[]⟩), .dat (.str ⟨#[]⟩), .nili], false⟩ 
  (.node .nil 118 ⟨.func, 1, 8, [.nilfn], false⟩ .nil)) 119 ⟨.func, 1, 8, [.nilfn], false⟩ 
  (.node 
  (.node .nil 120 ⟨.arr 20 24, 20, 160, List.replicate 20 (.dat (.int .u64 0)), true⟩ .nil) 121 ⟨.int .u32, 1, 4, [.dat (.int .u32 0)], true⟩ 
  (.node .nil 122 ⟨.arr 65 5, 65, 65, List.replicate 65 (.dat (.int .u8 0)), true⟩ .nil))) 123 ⟨.func, 1, 8, [.nilfn], false⟩ 
  (.node 
  (.node 
  (.node .nil 124 ⟨.arr 256 5, 256, 256, List.replicate 256 (.dat (.int .u8 0)), true⟩ .nil) 125 ⟨.struct [(0, 5), (1, 5)], 2, 2, [.dat (.int .u8 0), .dat (.int .u8 0)], true⟩ 
  (.node .nil 126 ⟨.struct [(0, 5), (1, 5)], 2, 2, [.dat (.int .u8 0), .dat (.int .u8 0)], true⟩ .nil)) 127 ⟨.arr 16 126, 32, 32, List.replicate 32 (.dat (.int .u8 0)), true⟩ 
  (.node 
  (.node .nil 129 ⟨.func, 1, 8, [.nilfn], false⟩ .nil) 130 ⟨.func, 1, 8, [.nilfn], false⟩ 
  (.node .nil 131 ⟨.ptr 133, 1, 8, [.nilp], false⟩ .nil)))) 132 ⟨.struct [(0, 9)], 1, 16, [.dat (.str ⟨#[]⟩)], true⟩ 
  (.node 
  (.node 
  (.node 
  (.node 
  (.node .nil 133 ⟨.struct [(0, 9)], 1, 16, [.dat (.str ⟨#[]⟩)], true⟩ .nil) 134 ⟨.func, 1, 8, [.nilfn], false⟩ .nil) 135 ⟨.arr 32 5, 32, 32, List.replicate 32 (.dat (.int .u8 0)), true⟩ 
  (.node .nil 136 ⟨.struct [(0, 17), (1, 17), (2, 17), (3, 9)], 4, 40, [.nilp, .nilp, .nilp, .dat (.str ⟨#[]⟩)], false⟩ .nil)) 137 ⟨.struct [(0, 17), (1, 17), (2, 17), (3, 9)], 4, 40, [.nilp, .nilp, .nilp, .dat (.str ⟨#[]⟩)], false⟩ 
  (.node 
  (.node .nil 138 ⟨.arr 0 16, 0, 0, [], false⟩ .nil) 139 ⟨.struct [(0, 138)], 0, 0, [], false⟩ 
  (.node .nil 140 ⟨.struct [(0, 138)], 0, 0, [], false⟩ .nil))) 141 ⟨.func, 1, 8, [.nilfn], false⟩ 
  (.node 
  (.node 
  (.node .nil 142 ⟨.int .u8, 1, 1, [.dat (.int .u8 0)], true⟩ .nil) 143 ⟨.int .u8, 1, 1, [.dat (.int .u8 0)], true⟩ 
  (.node .nil 144 ⟨.func, 1, 8, [.nilfn], false⟩ .nil)) 145 ⟨.int .i32, 1, 4, [.dat (.int .i32 0)], true⟩ 
  (.node 
  (.node .nil 146 ⟨.int .i32, 1, 4, [.dat (.int .i32 0)], true⟩ .nil) 147 ⟨.struct [(0, 12), (1, 12), (2, 121), (3, 142), (4, 5), (5, 5), (6, 143), (7, 144), (8, 93), (9, 145), (10, 146)], 11, 48, [.dat (.int .u64 0), .dat (.int .u64 0), .dat (.int .u32 0), .dat (.int .u8 0), .dat (.int .u8 0), .dat (.int .u8 0), .dat (.int .u8 0), .nilfn, .nilp, .dat (.int .i32 0), .dat (.int .i32 0)], false⟩ 
  (.node .nil 148 ⟨.struct [(0, 12), (1, 12), (2, 121), (3, 142), (4, 5), (5, 5), (6, 143), (7, 144), (8, 93), (9, 145), (10, 146)], 11, 48, [.dat (.int .u64 0), .dat (.int .u64 0), .dat (.int .u32 0), .dat (.int .u8 0), .dat (.int .u8 0), .dat (.int .u8 0), .dat (.int .u8 0), .nilfn, .nilp, .dat (.int .i32 0), .dat (.int .i32 0)], false⟩ .nil)))))))
def TT : Tab := fun t => TTree.get t
theorem TT_ok : TabOk Go.Proofs.Tryd.prog TT := fun _ _ h => BT.get_all (BT.all_ok (q := tyOk Go.Proofs.Tryd.prog) (show TTree.all (tyOk Go.Proofs.Tryd.prog) = true by kernel_rfl)) h
end Go.Eng
end
