/- The table of types of this seat, and that it is right. -/
import Derived.Test.YtjicjmpkgpbdbaaGreatDoorEngG
import Derived.Test.YtjicjmpkgpbdbaaGreatDoorEngBt
import Derived.Test.YtjicjmpkgpbdbaaGreatDoorProg
import Derived.KernelRfl
namespace Go.Proofs.YtjicjmpkgpbdbaaGreatDoor
open Go Go.Eng
set_option maxRecDepth 100000
def TTree : BT TI :=
  
  (.node 
  (.node 
  (.node 
  (.node 
  (.node 
  (.node 
  (.node 
  (.node 
  (.node .nil 1 ⟨.func, 1, 8, [.nilfn], false⟩ .nil) 2 ⟨.int .i64, 1, 8, [.dat (.int .i64 0)], true⟩ .nil) 3 ⟨.int .i64, 1, 8, [.dat (.int .i64 0)], true⟩ 
  (.node 
  (.node .nil 4 ⟨.bool, 1, 1, [.dat (.bool false)], true⟩ .nil) 5 ⟨.int .u8, 1, 1, [.dat (.int .u8 0)], true⟩ .nil)) 6 ⟨.int .u8, 1, 1, [.dat (.int .u8 0)], true⟩ 
  (.node 
  (.node 
  (.node .nil 7 ⟨.struct [(0, 2), (1, 3), (2, 4), (3, 6)], 4, 24, [.dat (.int .i64 0), .dat (.int .i64 0), .dat (.bool false), .dat (.int .u8 0)], true⟩ .nil) 8 ⟨.struct [(0, 2), (1, 3), (2, 4), (3, 6)], 4, 24, [.dat (.int .i64 0), .dat (.int .i64 0), .dat (.bool false), .dat (.int .u8 0)], true⟩ .nil) 9 ⟨.str, 1, 16, [.dat (.str ⟨#[]⟩)], true⟩ 
  (.node 
  (.node .nil 10 ⟨.str, 1, 16, [.dat (.str ⟨#[]⟩)], true⟩ .nil) 11 ⟨.str, 1, 16, [.dat (.str ⟨#[]⟩)], true⟩ .nil))) 12 ⟨.int .u64, 1, 8, [.dat (.int .u64 0)], true⟩ 
  (.node 
  (.node 
  (.node 
  (.node .nil 13 ⟨.struct [(0, 9), (1, 12)], 2, 24, [.dat (.str ⟨#[]⟩), .dat (.int .u64 0)], false⟩ .nil) 14 ⟨.struct [(0, 9), (1, 12)], 2, 24, [.dat (.str ⟨#[]⟩), .dat (.int .u64 0)], false⟩ .nil) 15 ⟨.ptr 388, 1, 8, [.nilp], false⟩ 
  (.node 
  (.node .nil 16 ⟨.ptr 391, 1, 8, [.nilp], false⟩ .nil) 17 ⟨.ptr 398, 1, 8, [.nilp], false⟩ .nil)) 18 ⟨.struct [(0, 17)], 1, 8, [.nilp], false⟩ 
  (.node 
  (.node 
  (.node .nil 19 ⟨.struct [(0, 17)], 1, 8, [.nilp], false⟩ .nil) 20 ⟨.iface, 1, 16, [.nili], false⟩ .nil) 21 ⟨.int .i32, 1, 4, [.dat (.int .i32 0)], true⟩ 
  (.node .nil 22 ⟨.slice 4, 1, 24, [.dat (.list .nil 0 [])], false⟩ .nil)))) 23 ⟨.struct [(0, 3), (1, 3), (2, 3), (3, 3), (4, 9), (5, 3), (6, 22)], 7, 80, [.dat (.int .i64 0), .dat (.int .i64 0), .dat (.int .i64 0), .dat (.int .i64 0), .dat (.str ⟨#[]⟩), .dat (.int .i64 0), .dat (.list .nil 0 [])], false⟩ 
  (.node 
  (.node 
  (.node 
  (.node 
  (.node .nil 24 ⟨.struct [(0, 3), (1, 3), (2, 3), (3, 3), (4, 9), (5, 3), (6, 22)], 7, 80, [.dat (.int .i64 0), .dat (.int .i64 0), .dat (.int .i64 0), .dat (.int .i64 0), .dat (.str ⟨#[]⟩), .dat (.int .i64 0), .dat (.list .nil 0 [])], false⟩ .nil) 25 ⟨.ptr 42, 1, 8, [.nilp], false⟩ .nil) 26 ⟨.slice 45, 1, 24, [.dat (.list .nil 0 [])], false⟩ 
  (.node 
  (.node .nil 27 ⟨.int .i64, 1, 8, [.dat (.int .i64 0)], true⟩ .nil) 29 ⟨.func, 1, 8, [.nilfn], false⟩ .nil)) 30 ⟨.func, 1, 8, [.nilfn], false⟩ 
  (.node 
  (.node 
  (.node .nil 31 ⟨.func, 1, 8, [.nilfn], false⟩ .nil) 32 ⟨.func, 1, 8, [.nilfn], false⟩ .nil) 33 ⟨.func, 1, 8, [.nilfn], false⟩ 
  (.node .nil 34 ⟨.slice 3, 1, 24, [.dat (.list .nil 0 [])], false⟩ .nil))) 35 ⟨.struct [(0, 27), (1, 2), (2, 2), (3, 9), (4, 34)], 5, 64, [.dat (.int .i64 0), .dat (.int .i64 0), .dat (.int .i64 0), .dat (.str ⟨#[]⟩), .dat (.list .nil 0 [])], false⟩ 
  (.node 
  (.node 
  (.node 
  (.node .nil 36 ⟨.struct [(0, 27), (1, 2), (2, 2), (3, 9), (4, 34)], 5, 64, [.dat (.int .i64 0), .dat (.int .i64 0), .dat (.int .i64 0), .dat (.str ⟨#[]⟩), .dat (.list .nil 0 [])], false⟩ .nil) 37 ⟨.func, 1, 8, [.nilfn], false⟩ .nil) 38 ⟨.func, 1, 8, [.nilfn], false⟩ 
  (.node 
  (.node .nil 39 ⟨.func, 1, 8, [.nilfn], false⟩ .nil) 40 ⟨.arr 16 2, 16, 128, List.replicate 16 (.dat (.int .i64 0)), true⟩ .nil)) 41 ⟨.struct [(0, 26), (1, 2), (2, 40)], 18, 160, [.dat (.list .nil 0 []), .dat (.int .i64 0), .dat (.int .i64 0), .dat (.int .i64 0), .dat (.int .i64 0), .dat (.int .i64 0), .dat (.int .i64 0), .dat (.int .i64 0), .dat (.int .i64 0), .dat (.int .i64 0), .dat (.int .i64 0), .dat (.int .i64 0), .dat (.int .i64 0), .dat (.int .i64 0), .dat (.int .i64 0), .dat (.int .i64 0), .dat (.int .i64 0), .dat (.int .i64 0)], false⟩ 
  (.node 
  (.node 
  (.node .nil 42 ⟨.struct [(0, 26), (1, 2), (2, 40)], 18, 160, [.dat (.list .nil 0 []), .dat (.int .i64 0), .dat (.int .i64 0), .dat (.int .i64 0), .dat (.int .i64 0), .dat (.int .i64 0), .dat (.int .i64 0), .dat (.int .i64 0), .dat (.int .i64 0), .dat (.int .i64 0), .dat (.int .i64 0), .dat (.int .i64 0), .dat (.int .i64 0), .dat (.int .i64 0), .dat (.int .i64 0), .dat (.int .i64 0), .dat (.int .i64 0), .dat (.int .i64 0)], false⟩ .nil) 43 ⟨.func, 1, 8, [.nilfn], false⟩ .nil) 44 ⟨.struct [(0, 2), (1, 3), (2, 3), (3, 27)], 4, 32, [.dat (.int .i64 0), .dat (.int .i64 0), .dat (.int .i64 0), .dat (.int .i64 0)], true⟩ 
  (.node .nil 45 ⟨.struct [(0, 2), (1, 3), (2, 3), (3, 27)], 4, 32, [.dat (.int .i64 0), .dat (.int .i64 0), .dat (.int .i64 0), .dat (.int .i64 0)], true⟩ .nil))))) 46 ⟨.func, 1, 8, [.nilfn], false⟩ 
  (.node 
  (.node 
  (.node 
  (.node 
  (.node 
  (.node .nil 47 ⟨.ptr 64, 1, 8, [.nilp], false⟩ .nil) 48 ⟨.func, 1, 8, [.nilfn], false⟩ .nil) 49 ⟨.func, 1, 8, [.nilfn], false⟩ 
  (.node 
  (.node .nil 50 ⟨.func, 1, 8, [.nilfn], false⟩ .nil) 51 ⟨.func, 1, 8, [.nilfn], false⟩ .nil)) 52 ⟨.ptr 78, 1, 8, [.nilp], false⟩ 
  (.node 
  (.node 
  (.node .nil 53 ⟨.int .u32, 1, 4, [.dat (.int .u32 0)], true⟩ .nil) 54 ⟨.struct [(0, 3), (1, 3), (2, 3), (3, 3)], 4, 32, [.dat (.int .i64 0), .dat (.int .i64 0), .dat (.int .i64 0), .dat (.int .i64 0)], true⟩ .nil) 55 ⟨.struct [(0, 3), (1, 3), (2, 3), (3, 3)], 4, 32, [.dat (.int .i64 0), .dat (.int .i64 0), .dat (.int .i64 0), .dat (.int .i64 0)], true⟩ 
  (.node 
  (.node .nil 56 ⟨.int .u64, 1, 8, [.dat (.int .u64 0)], true⟩ .nil) 57 ⟨.struct [(0, 53), (1, 55), (5, 56)], 6, 48, [.dat (.int .u32 0), .dat (.int .i64 0), .dat (.int .i64 0), .dat (.int .i64 0), .dat (.int .i64 0), .dat (.int .u64 0)], true⟩ .nil))) 58 ⟨.struct [(0, 53), (1, 55), (5, 56)], 6, 48, [.dat (.int .u32 0), .dat (.int .i64 0), .dat (.int .i64 0), .dat (.int .i64 0), .dat (.int .i64 0), .dat (.int .u64 0)], true⟩ 
  (.node 
  (.node 
  (.node 
  (.node .nil 59 ⟨.arr 2 52, 2, 16, [.nilp, .nilp], false⟩ .nil) 60 ⟨.ptr 119, 1, 8, [.nilp], false⟩ .nil) 61 ⟨.ptr 165, 1, 8, [.nilp], false⟩ 
  (.node 
  (.node .nil 62 ⟨.ptr 84, 1, 8, [.nilp], false⟩ .nil) 63 ⟨.struct [(0, 58), (6, 59), (8, 60), (9, 61), (10, 62)], 11, 88, [.dat (.int .u32 0), .dat (.int .i64 0), .dat (.int .i64 0), .dat (.int .i64 0), .dat (.int .i64 0), .dat (.int .u64 0), .nilp, .nilp, .nilp, .nilp, .nilp], false⟩ .nil)) 64 ⟨.struct [(0, 58), (6, 59), (8, 60), (9, 61), (10, 62)], 11, 88, [.dat (.int .u32 0), .dat (.int .i64 0), .dat (.int .i64 0), .dat (.int .i64 0), .dat (.int .i64 0), .dat (.int .u64 0), .nilp, .nilp, .nilp, .nilp, .nilp], false⟩ 
  (.node 
  (.node 
  (.node .nil 65 ⟨.func, 1, 8, [.nilfn], false⟩ .nil) 66 ⟨.func, 1, 8, [.nilfn], false⟩ .nil) 67 ⟨.func, 1, 8, [.nilfn], false⟩ 
  (.node .nil 68 ⟨.func, 1, 8, [.nilfn], false⟩ .nil)))) 69 ⟨.func, 1, 8, [.nilfn], false⟩ 
  (.node 
  (.node 
  (.node 
  (.node 
  (.node .nil 70 ⟨.struct [(0, 3), (1, 9)], 2, 24, [.dat (.int .i64 0), .dat (.str ⟨#[]⟩)], true⟩ .nil) 71 ⟨.struct [(0, 3), (1, 9)], 2, 24, [.dat (.int .i64 0), .dat (.str ⟨#[]⟩)], true⟩ .nil) 73 ⟨.func, 1, 8, [.nilfn], false⟩ 
  (.node 
  (.node .nil 74 ⟨.func, 1, 8, [.nilfn], false⟩ .nil) 75 ⟨.slice 9, 1, 24, [.dat (.list .nil 0 [])], false⟩ .nil)) 76 ⟨.slice 93, 1, 24, [.dat (.list .nil 0 [])], false⟩ 
  (.node 
  (.node 
  (.node .nil 77 ⟨.struct [(0, 75), (1, 76), (2, 3), (3, 4), (4, 3)], 5, 72, [.dat (.list .nil 0 []), .dat (.list .nil 0 []), .dat (.int .i64 0), .dat (.bool false), .dat (.int .i64 0)], false⟩ .nil) 78 ⟨.struct [(0, 75), (1, 76), (2, 3), (3, 4), (4, 3)], 5, 72, [.dat (.list .nil 0 []), .dat (.list .nil 0 []), .dat (.int .i64 0), .dat (.bool false), .dat (.int .i64 0)], false⟩ .nil) 79 ⟨.slice 71, 1, 24, [.dat (.list .nil 0 [])], false⟩ 
  (.node .nil 80 ⟨.func, 1, 8, [.nilfn], false⟩ .nil))) 81 ⟨.struct [(0, 3), (1, 3), (2, 3)], 3, 24, [.dat (.int .i64 0), .dat (.int .i64 0), .dat (.int .i64 0)], true⟩ 
  (.node 
  (.node 
  (.node 
  (.node .nil 82 ⟨.struct [(0, 3), (1, 3), (2, 3)], 3, 24, [.dat (.int .i64 0), .dat (.int .i64 0), .dat (.int .i64 0)], true⟩ .nil) 83 ⟨.struct [(0, 82), (3, 79)], 4, 48, [.dat (.int .i64 0), .dat (.int .i64 0), .dat (.int .i64 0), .dat (.list .nil 0 [])], false⟩ .nil) 84 ⟨.struct [(0, 82), (3, 79)], 4, 48, [.dat (.int .i64 0), .dat (.int .i64 0), .dat (.int .i64 0), .dat (.list .nil 0 [])], false⟩ 
  (.node 
  (.node .nil 85 ⟨.func, 1, 8, [.nilfn], false⟩ .nil) 86 ⟨.slice 95, 1, 24, [.dat (.list .nil 0 [])], false⟩ .nil)) 87 ⟨.func, 1, 8, [.nilfn], false⟩ 
  (.node 
  (.node 
  (.node .nil 88 ⟨.func, 1, 8, [.nilfn], false⟩ .nil) 90 ⟨.func, 1, 8, [.nilfn], false⟩ .nil) 91 ⟨.ptr 71, 1, 8, [.nilp], false⟩ 
  (.node .nil 92 ⟨.struct [(0, 3), (1, 9)], 2, 24, [.dat (.int .i64 0), .dat (.str ⟨#[]⟩)], true⟩ .nil)))))) 93 ⟨.struct [(0, 3), (1, 9)], 2, 24, [.dat (.int .i64 0), .dat (.str ⟨#[]⟩)], true⟩ 
  (.node 
  (.node 
  (.node 
  (.node 
  (.node 
  (.node 
  (.node .nil 94 ⟨.struct [(0, 3), (1, 56), (2, 56), (3, 53), (4, 53), (5, 3), (6, 3), (7, 3), (8, 3), (9, 9), (10, 75)], 11, 104, [.dat (.int .i64 0), .dat (.int .u64 0), .dat (.int .u64 0), .dat (.int .u32 0), .dat (.int .u32 0), .dat (.int .i64 0), .dat (.int .i64 0), .dat (.int .i64 0), .dat (.int .i64 0), .dat (.str ⟨#[]⟩), .dat (.list .nil 0 [])], false⟩ .nil) 95 ⟨.struct [(0, 3), (1, 56), (2, 56), (3, 53), (4, 53), (5, 3), (6, 3), (7, 3), (8, 3), (9, 9), (10, 75)], 11, 104, [.dat (.int .i64 0), .dat (.int .u64 0), .dat (.int .u64 0), .dat (.int .u32 0), .dat (.int .u32 0), .dat (.int .i64 0), .dat (.int .i64 0), .dat (.int .i64 0), .dat (.int .i64 0), .dat (.str ⟨#[]⟩), .dat (.list .nil 0 [])], false⟩ .nil) 96 ⟨.slice 5, 1, 24, [.dat (.list .nil 0 [])], false⟩ 
  (.node 
  (.node .nil 98 ⟨.func, 1, 8, [.nilfn], false⟩ .nil) 99 ⟨.func, 1, 8, [.nilfn], false⟩ .nil)) 101 ⟨.func, 1, 8, [.nilfn], false⟩ 
  (.node 
  (.node 
  (.node .nil 102 ⟨.func, 1, 8, [.nilfn], false⟩ .nil) 103 ⟨.func, 1, 8, [.nilfn], false⟩ .nil) 104 ⟨.func, 1, 8, [.nilfn], false⟩ 
  (.node 
  (.node .nil 105 ⟨.func, 1, 8, [.nilfn], false⟩ .nil) 106 ⟨.ptr 108, 1, 8, [.nilp], false⟩ .nil))) 107 ⟨.struct [(0, 96), (1, 4)], 2, 32, [.dat (.list .nil 0 []), .dat (.bool false)], false⟩ 
  (.node 
  (.node 
  (.node 
  (.node .nil 108 ⟨.struct [(0, 96), (1, 4)], 2, 32, [.dat (.list .nil 0 []), .dat (.bool false)], false⟩ .nil) 109 ⟨.func, 1, 8, [.nilfn], false⟩ .nil) 110 ⟨.func, 1, 8, [.nilfn], false⟩ 
  (.node 
  (.node .nil 111 ⟨.func, 1, 8, [.nilfn], false⟩ .nil) 112 ⟨.func, 1, 8, [.nilfn], false⟩ .nil)) 113 ⟨.struct [(0, 56), (1, 56), (2, 9), (3, 56), (4, 56), (5, 34), (6, 3)], 7, 80, [.dat (.int .u64 0), .dat (.int .u64 0), .dat (.str ⟨#[]⟩), .dat (.int .u64 0), .dat (.int .u64 0), .dat (.list .nil 0 []), .dat (.int .i64 0)], false⟩ 
  (.node 
  (.node 
  (.node .nil 114 ⟨.struct [(0, 56), (1, 56), (2, 9), (3, 56), (4, 56), (5, 34), (6, 3)], 7, 80, [.dat (.int .u64 0), .dat (.int .u64 0), .dat (.str ⟨#[]⟩), .dat (.int .u64 0), .dat (.int .u64 0), .dat (.list .nil 0 []), .dat (.int .i64 0)], false⟩ .nil) 115 ⟨.ptr 157, 1, 8, [.nilp], false⟩ .nil) 116 ⟨.struct [(0, 56), (1, 56), (2, 3), (3, 3)], 4, 32, [.dat (.int .u64 0), .dat (.int .u64 0), .dat (.int .i64 0), .dat (.int .i64 0)], true⟩ 
  (.node .nil 117 ⟨.struct [(0, 56), (1, 56), (2, 3), (3, 3)], 4, 32, [.dat (.int .u64 0), .dat (.int .u64 0), .dat (.int .i64 0), .dat (.int .i64 0)], true⟩ .nil)))) 118 ⟨.struct [(0, 115), (1, 117), (5, 56), (6, 53)], 7, 56, [.nilp, .dat (.int .u64 0), .dat (.int .u64 0), .dat (.int .i64 0), .dat (.int .i64 0), .dat (.int .u64 0), .dat (.int .u32 0)], false⟩ 
  (.node 
  (.node 
  (.node 
  (.node 
  (.node .nil 119 ⟨.struct [(0, 115), (1, 117), (5, 56), (6, 53)], 7, 56, [.nilp, .dat (.int .u64 0), .dat (.int .u64 0), .dat (.int .i64 0), .dat (.int .i64 0), .dat (.int .u64 0), .dat (.int .u32 0)], false⟩ .nil) 120 ⟨.func, 1, 8, [.nilfn], false⟩ .nil) 121 ⟨.int .u64, 1, 8, [.dat (.int .u64 0)], true⟩ 
  (.node 
  (.node .nil 122 ⟨.func, 1, 8, [.nilfn], false⟩ .nil) 123 ⟨.func, 1, 8, [.nilfn], false⟩ .nil)) 124 ⟨.func, 1, 8, [.nilfn], false⟩ 
  (.node 
  (.node 
  (.node .nil 126 ⟨.func, 1, 8, [.nilfn], false⟩ .nil) 128 ⟨.func, 1, 8, [.nilfn], false⟩ .nil) 129 ⟨.struct [(0, 56), (1, 56), (2, 56), (3, 9), (4, 56), (5, 3)], 6, 56, [.dat (.int .u64 0), .dat (.int .u64 0), .dat (.int .u64 0), .dat (.str ⟨#[]⟩), .dat (.int .u64 0), .dat (.int .i64 0)], true⟩ 
  (.node .nil 130 ⟨.struct [(0, 56), (1, 56), (2, 56), (3, 9), (4, 56), (5, 3)], 6, 56, [.dat (.int .u64 0), .dat (.int .u64 0), .dat (.int .u64 0), .dat (.str ⟨#[]⟩), .dat (.int .u64 0), .dat (.int .i64 0)], true⟩ .nil))) 131 ⟨.func, 1, 8, [.nilfn], false⟩ 
  (.node 
  (.node 
  (.node 
  (.node .nil 133 ⟨.func, 1, 8, [.nilfn], false⟩ .nil) 135 ⟨.func, 1, 8, [.nilfn], false⟩ .nil) 136 ⟨.func, 1, 8, [.nilfn], false⟩ 
  (.node 
  (.node .nil 137 ⟨.ptr 192, 1, 8, [.nilp], false⟩ .nil) 138 ⟨.func, 1, 8, [.nilfn], false⟩ .nil)) 139 ⟨.func, 1, 8, [.nilfn], false⟩ 
  (.node 
  (.node 
  (.node .nil 140 ⟨.func, 1, 8, [.nilfn], false⟩ .nil) 141 ⟨.func, 1, 8, [.nilfn], false⟩ .nil) 142 ⟨.func, 1, 8, [.nilfn], false⟩ 
  (.node .nil 143 ⟨.func, 1, 8, [.nilfn], false⟩ .nil))))) 144 ⟨.struct [(0, 3), (1, 56), (2, 56), (3, 53), (4, 53), (5, 3), (6, 3), (7, 3), (8, 3), (9, 9)], 10, 80, [.dat (.int .i64 0), .dat (.int .u64 0), .dat (.int .u64 0), .dat (.int .u32 0), .dat (.int .u32 0), .dat (.int .i64 0), .dat (.int .i64 0), .dat (.int .i64 0), .dat (.int .i64 0), .dat (.str ⟨#[]⟩)], true⟩ 
  (.node 
  (.node 
  (.node 
  (.node 
  (.node 
  (.node .nil 145 ⟨.struct [(0, 3), (1, 56), (2, 56), (3, 53), (4, 53), (5, 3), (6, 3), (7, 3), (8, 3), (9, 9)], 10, 80, [.dat (.int .i64 0), .dat (.int .u64 0), .dat (.int .u64 0), .dat (.int .u32 0), .dat (.int .u32 0), .dat (.int .i64 0), .dat (.int .i64 0), .dat (.int .i64 0), .dat (.int .i64 0), .dat (.str ⟨#[]⟩)], true⟩ .nil) 146 ⟨.func, 1, 8, [.nilfn], false⟩ .nil) 147 ⟨.func, 1, 8, [.nilfn], false⟩ 
  (.node 
  (.node .nil 148 ⟨.func, 1, 8, [.nilfn], false⟩ .nil) 149 ⟨.struct [(0, 56), (1, 9), (2, 56)], 3, 32, [.dat (.int .u64 0), .dat (.str ⟨#[]⟩), .dat (.int .u64 0)], true⟩ .nil)) 150 ⟨.struct [(0, 56), (1, 9), (2, 56)], 3, 32, [.dat (.int .u64 0), .dat (.str ⟨#[]⟩), .dat (.int .u64 0)], true⟩ 
  (.node 
  (.node 
  (.node .nil 151 ⟨.arr 2 56, 2, 16, [.dat (.int .u64 0), .dat (.int .u64 0)], true⟩ .nil) 152 ⟨.arr 2 56, 2, 16, [.dat (.int .u64 0), .dat (.int .u64 0)], true⟩ .nil) 153 ⟨.struct [(0, 152), (2, 152), (4, 56)], 5, 40, [.dat (.int .u64 0), .dat (.int .u64 0), .dat (.int .u64 0), .dat (.int .u64 0), .dat (.int .u64 0)], true⟩ 
  (.node 
  (.node .nil 154 ⟨.struct [(0, 152), (2, 152), (4, 56)], 5, 40, [.dat (.int .u64 0), .dat (.int .u64 0), .dat (.int .u64 0), .dat (.int .u64 0), .dat (.int .u64 0)], true⟩ .nil) 155 ⟨.slice 235, 1, 24, [.dat (.list .nil 0 [])], false⟩ .nil))) 156 ⟨.struct [(0, 150), (3, 52), (4, 58), (10, 56), (11, 56), (12, 154), (17, 155)], 18, 168, [.dat (.int .u64 0), .dat (.str ⟨#[]⟩), .dat (.int .u64 0), .nilp, .dat (.int .u32 0), .dat (.int .i64 0), .dat (.int .i64 0), .dat (.int .i64 0), .dat (.int .i64 0), .dat (.int .u64 0), .dat (.int .u64 0), .dat (.int .u64 0), .dat (.int .u64 0), .dat (.int .u64 0), .dat (.int .u64 0), .dat (.int .u64 0), .dat (.int .u64 0), .dat (.list .nil 0 [])], false⟩ 
  (.node 
  (.node 
  (.node 
  (.node .nil 157 ⟨.struct [(0, 150), (3, 52), (4, 58), (10, 56), (11, 56), (12, 154), (17, 155)], 18, 168, [.dat (.int .u64 0), .dat (.str ⟨#[]⟩), .dat (.int .u64 0), .nilp, .dat (.int .u32 0), .dat (.int .i64 0), .dat (.int .i64 0), .dat (.int .i64 0), .dat (.int .i64 0), .dat (.int .u64 0), .dat (.int .u64 0), .dat (.int .u64 0), .dat (.int .u64 0), .dat (.int .u64 0), .dat (.int .u64 0), .dat (.int .u64 0), .dat (.int .u64 0), .dat (.list .nil 0 [])], false⟩ .nil) 158 ⟨.func, 1, 8, [.nilfn], false⟩ .nil) 159 ⟨.func, 1, 8, [.nilfn], false⟩ 
  (.node 
  (.node .nil 160 ⟨.func, 1, 8, [.nilfn], false⟩ .nil) 161 ⟨.ptr 95, 1, 8, [.nilp], false⟩ .nil)) 162 ⟨.func, 1, 8, [.nilfn], false⟩ 
  (.node 
  (.node 
  (.node .nil 163 ⟨.ptr 256, 1, 8, [.nilp], false⟩ .nil) 164 ⟨.struct [(0, 137), (1, 163), (2, 4), (3, 56), (4, 53)], 5, 40, [.nilp, .nilp, .dat (.bool false), .dat (.int .u64 0), .dat (.int .u32 0)], false⟩ .nil) 165 ⟨.struct [(0, 137), (1, 163), (2, 4), (3, 56), (4, 53)], 5, 40, [.nilp, .nilp, .dat (.bool false), .dat (.int .u64 0), .dat (.int .u32 0)], false⟩ 
  (.node .nil 166 ⟨.func, 1, 8, [.nilfn], false⟩ .nil)))) 167 ⟨.func, 1, 8, [.nilfn], false⟩ 
  (.node 
  (.node 
  (.node 
  (.node 
  (.node .nil 169 ⟨.func, 1, 8, [.nilfn], false⟩ .nil) 170 ⟨.func, 1, 8, [.nilfn], false⟩ .nil) 172 ⟨.func, 1, 8, [.nilfn], false⟩ 
  (.node 
  (.node .nil 173 ⟨.func, 1, 8, [.nilfn], false⟩ .nil) 175 ⟨.func, 1, 8, [.nilfn], false⟩ .nil)) 176 ⟨.func, 1, 8, [.nilfn], false⟩ 
  (.node 
  (.node 
  (.node .nil 177 ⟨.func, 1, 8, [.nilfn], false⟩ .nil) 178 ⟨.func, 1, 8, [.nilfn], false⟩ .nil) 179 ⟨.func, 1, 8, [.nilfn], false⟩ 
  (.node .nil 180 ⟨.func, 1, 8, [.nilfn], false⟩ .nil))) 181 ⟨.func, 1, 8, [.nilfn], false⟩ 
  (.node 
  (.node 
  (.node 
  (.node .nil 182 ⟨.func, 1, 8, [.nilfn], false⟩ .nil) 183 ⟨.func, 1, 8, [.nilfn], false⟩ .nil) 184 ⟨.func, 1, 8, [.nilfn], false⟩ 
  (.node 
  (.node .nil 185 ⟨.struct [(0, 56), (1, 56), (2, 56)], 3, 24, [.dat (.int .u64 0), .dat (.int .u64 0), .dat (.int .u64 0)], true⟩ .nil) 186 ⟨.struct [(0, 56), (1, 56), (2, 56)], 3, 24, [.dat (.int .u64 0), .dat (.int .u64 0), .dat (.int .u64 0)], true⟩ .nil)) 187 ⟨.ptr 297, 1, 8, [.nilp], false⟩ 
  (.node 
  (.node 
  (.node .nil 188 ⟨.struct [(0, 56), (1, 9), (2, 187), (3, 56)], 4, 40, [.dat (.int .u64 0), .dat (.str ⟨#[]⟩), .nilp, .dat (.int .u64 0)], false⟩ .nil) 189 ⟨.struct [(0, 56), (1, 9), (2, 187), (3, 56)], 4, 40, [.dat (.int .u64 0), .dat (.str ⟨#[]⟩), .nilp, .dat (.int .u64 0)], false⟩ .nil) 190 ⟨.ptr 206, 1, 8, [.nilp], false⟩ 
  (.node .nil 191 ⟨.struct [(0, 186), (3, 189), (7, 52), (8, 58), (14, 56), (15, 190)], 16, 136, [.dat (.int .u64 0), .dat (.int .u64 0), .dat (.int .u64 0), .dat (.int .u64 0), .dat (.str ⟨#[]⟩), .nilp, .dat (.int .u64 0), .nilp, .dat (.int .u32 0), .dat (.int .i64 0), .dat (.int .i64 0), .dat (.int .i64 0), .dat (.int .i64 0), .dat (.int .u64 0), .dat (.int .u64 0), .nilp], false⟩ .nil))))))) 192 ⟨.struct [(0, 186), (3, 189), (7, 52), (8, 58), (14, 56), (15, 190)], 16, 136, [.dat (.int .u64 0), .dat (.int .u64 0), .dat (.int .u64 0), .dat (.int .u64 0), .dat (.str ⟨#[]⟩), .nilp, .dat (.int .u64 0), .nilp, .dat (.int .u32 0), .dat (.int .i64 0), .dat (.int .i64 0), .dat (.int .i64 0), .dat (.int .i64 0), .dat (.int .u64 0), .dat (.int .u64 0), .nilp], false⟩ 
  (.node 
  (.node 
  (.node 
  (.node 
  (.node 
  (.node 
  (.node 
  (.node .nil 193 ⟨.func, 1, 8, [.nilfn], false⟩ .nil) 194 ⟨.func, 1, 8, [.nilfn], false⟩ .nil) 195 ⟨.func, 1, 8, [.nilfn], false⟩ 
  (.node 
  (.node .nil 196 ⟨.func, 1, 8, [.nilfn], false⟩ .nil) 197 ⟨.func, 1, 8, [.nilfn], false⟩ .nil)) 198 ⟨.func, 1, 8, [.nilfn], false⟩ 
  (.node 
  (.node 
  (.node .nil 199 ⟨.func, 1, 8, [.nilfn], false⟩ .nil) 200 ⟨.arr 256 53, 256, 1024, List.replicate 256 (.dat (.int .u32 0)), true⟩ .nil) 201 ⟨.func, 1, 8, [.nilfn], false⟩ 
  (.node 
  (.node .nil 202 ⟨.func, 1, 8, [.nilfn], false⟩ .nil) 204 ⟨.func, 1, 8, [.nilfn], false⟩ .nil))) 205 ⟨.struct [(0, 56), (1, 9), (2, 56), (3, 155), (4, 187)], 5, 64, [.dat (.int .u64 0), .dat (.str ⟨#[]⟩), .dat (.int .u64 0), .dat (.list .nil 0 []), .nilp], false⟩ 
  (.node 
  (.node 
  (.node 
  (.node .nil 206 ⟨.struct [(0, 56), (1, 9), (2, 56), (3, 155), (4, 187)], 5, 64, [.dat (.int .u64 0), .dat (.str ⟨#[]⟩), .dat (.int .u64 0), .dat (.list .nil 0 []), .nilp], false⟩ .nil) 207 ⟨.ptr 260, 1, 8, [.nilp], false⟩ .nil) 208 ⟨.func, 1, 8, [.nilfn], false⟩ 
  (.node 
  (.node .nil 209 ⟨.func, 1, 8, [.nilfn], false⟩ .nil) 210 ⟨.func, 1, 8, [.nilfn], false⟩ .nil)) 211 ⟨.func, 1, 8, [.nilfn], false⟩ 
  (.node 
  (.node 
  (.node .nil 212 ⟨.func, 1, 8, [.nilfn], false⟩ .nil) 213 ⟨.func, 1, 8, [.nilfn], false⟩ .nil) 214 ⟨.func, 1, 8, [.nilfn], false⟩ 
  (.node .nil 215 ⟨.func, 1, 8, [.nilfn], false⟩ .nil)))) 216 ⟨.func, 1, 8, [.nilfn], false⟩ 
  (.node 
  (.node 
  (.node 
  (.node 
  (.node .nil 217 ⟨.func, 1, 8, [.nilfn], false⟩ .nil) 218 ⟨.func, 1, 8, [.nilfn], false⟩ .nil) 220 ⟨.func, 1, 8, [.nilfn], false⟩ 
  (.node 
  (.node .nil 221 ⟨.func, 1, 8, [.nilfn], false⟩ .nil) 223 ⟨.func, 1, 8, [.nilfn], false⟩ .nil)) 224 ⟨.func, 1, 8, [.nilfn], false⟩ 
  (.node 
  (.node 
  (.node .nil 225 ⟨.func, 1, 8, [.nilfn], false⟩ .nil) 227 ⟨.func, 1, 8, [.nilfn], false⟩ .nil) 228 ⟨.func, 1, 8, [.nilfn], false⟩ 
  (.node .nil 229 ⟨.func, 1, 8, [.nilfn], false⟩ .nil))) 230 ⟨.func, 1, 8, [.nilfn], false⟩ 
  (.node 
  (.node 
  (.node 
  (.node .nil 231 ⟨.func, 1, 8, [.nilfn], false⟩ .nil) 233 ⟨.func, 1, 8, [.nilfn], false⟩ .nil) 234 ⟨.struct [(0, 56), (1, 56), (2, 3), (3, 9)], 4, 40, [.dat (.int .u64 0), .dat (.int .u64 0), .dat (.int .i64 0), .dat (.str ⟨#[]⟩)], true⟩ 
  (.node 
  (.node .nil 235 ⟨.struct [(0, 56), (1, 56), (2, 3), (3, 9)], 4, 40, [.dat (.int .u64 0), .dat (.int .u64 0), .dat (.int .i64 0), .dat (.str ⟨#[]⟩)], true⟩ .nil) 237 ⟨.func, 1, 8, [.nilfn], false⟩ .nil)) 238 ⟨.func, 1, 8, [.nilfn], false⟩ 
  (.node 
  (.node 
  (.node .nil 239 ⟨.func, 1, 8, [.nilfn], false⟩ .nil) 240 ⟨.arr 256 4, 256, 256, List.replicate 256 (.dat (.bool false)), true⟩ .nil) 241 ⟨.arr 256 4, 256, 256, List.replicate 256 (.dat (.bool false)), true⟩ 
  (.node .nil 243 ⟨.func, 1, 8, [.nilfn], false⟩ .nil))))) 245 ⟨.func, 1, 8, [.nilfn], false⟩ 
  (.node 
  (.node 
  (.node 
  (.node 
  (.node 
  (.node .nil 246 ⟨.func, 1, 8, [.nilfn], false⟩ .nil) 247 ⟨.func, 1, 8, [.nilfn], false⟩ .nil) 248 ⟨.func, 1, 8, [.nilfn], false⟩ 
  (.node 
  (.node .nil 249 ⟨.func, 1, 8, [.nilfn], false⟩ .nil) 250 ⟨.func, 1, 8, [.nilfn], false⟩ .nil)) 251 ⟨.arr 64 5, 64, 64, List.replicate 64 (.dat (.int .u8 0)), true⟩ 
  (.node 
  (.node 
  (.node .nil 252 ⟨.slice 258, 1, 24, [.dat (.list .nil 0 [])], false⟩ .nil) 253 ⟨.struct [(0, 252)], 1, 24, [.dat (.list .nil 0 [])], false⟩ .nil) 254 ⟨.struct [(0, 252)], 1, 24, [.dat (.list .nil 0 [])], false⟩ 
  (.node 
  (.node .nil 255 ⟨.struct [(0, 55), (4, 187), (5, 254), (6, 254), (7, 3), (8, 3), (9, 3)], 10, 112, [.dat (.int .i64 0), .dat (.int .i64 0), .dat (.int .i64 0), .dat (.int .i64 0), .nilp, .dat (.list .nil 0 []), .dat (.list .nil 0 []), .dat (.int .i64 0), .dat (.int .i64 0), .dat (.int .i64 0)], false⟩ .nil) 256 ⟨.struct [(0, 55), (4, 187), (5, 254), (6, 254), (7, 3), (8, 3), (9, 3)], 10, 112, [.dat (.int .i64 0), .dat (.int .i64 0), .dat (.int .i64 0), .dat (.int .i64 0), .nilp, .dat (.list .nil 0 []), .dat (.list .nil 0 []), .dat (.int .i64 0), .dat (.int .i64 0), .dat (.int .i64 0)], false⟩ .nil))) 257 ⟨.struct [(0, 3), (1, 9)], 2, 24, [.dat (.int .i64 0), .dat (.str ⟨#[]⟩)], true⟩ 
  (.node 
  (.node 
  (.node 
  (.node .nil 258 ⟨.struct [(0, 3), (1, 9)], 2, 24, [.dat (.int .i64 0), .dat (.str ⟨#[]⟩)], true⟩ .nil) 259 ⟨.struct [(0, 96), (1, 27)], 2, 32, [.dat (.list .nil 0 []), .dat (.int .i64 0)], false⟩ .nil) 260 ⟨.struct [(0, 96), (1, 27)], 2, 32, [.dat (.list .nil 0 []), .dat (.int .i64 0)], false⟩ 
  (.node 
  (.node .nil 261 ⟨.func, 1, 8, [.nilfn], false⟩ .nil) 263 ⟨.func, 1, 8, [.nilfn], false⟩ .nil)) 264 ⟨.func, 1, 8, [.nilfn], false⟩ 
  (.node 
  (.node 
  (.node .nil 265 ⟨.func, 1, 8, [.nilfn], false⟩ .nil) 266 ⟨.func, 1, 8, [.nilfn], false⟩ .nil) 267 ⟨.func, 1, 8, [.nilfn], false⟩ 
  (.node .nil 268 ⟨.func, 1, 8, [.nilfn], false⟩ .nil)))) 270 ⟨.func, 1, 8, [.nilfn], false⟩ 
  (.node 
  (.node 
  (.node 
  (.node 
  (.node .nil 272 ⟨.func, 1, 8, [.nilfn], false⟩ .nil) 274 ⟨.func, 1, 8, [.nilfn], false⟩ .nil) 275 ⟨.func, 1, 8, [.nilfn], false⟩ 
  (.node 
  (.node .nil 277 ⟨.func, 1, 8, [.nilfn], false⟩ .nil) 278 ⟨.func, 1, 8, [.nilfn], false⟩ .nil)) 280 ⟨.func, 1, 8, [.nilfn], false⟩ 
  (.node 
  (.node 
  (.node .nil 281 ⟨.func, 1, 8, [.nilfn], false⟩ .nil) 282 ⟨.func, 1, 8, [.nilfn], false⟩ .nil) 283 ⟨.func, 1, 8, [.nilfn], false⟩ 
  (.node .nil 284 ⟨.func, 1, 8, [.nilfn], false⟩ .nil))) 285 ⟨.func, 1, 8, [.nilfn], false⟩ 
  (.node 
  (.node 
  (.node 
  (.node .nil 286 ⟨.func, 1, 8, [.nilfn], false⟩ .nil) 288 ⟨.func, 1, 8, [.nilfn], false⟩ .nil) 289 ⟨.func, 1, 8, [.nilfn], false⟩ 
  (.node 
  (.node .nil 290 ⟨.func, 1, 8, [.nilfn], false⟩ .nil) 291 ⟨.struct [(0, 56), (1, 56), (2, 56), (3, 56)], 4, 32, [.dat (.int .u64 0), .dat (.int .u64 0), .dat (.int .u64 0), .dat (.int .u64 0)], true⟩ .nil)) 292 ⟨.struct [(0, 56), (1, 56), (2, 56), (3, 56)], 4, 32, [.dat (.int .u64 0), .dat (.int .u64 0), .dat (.int .u64 0), .dat (.int .u64 0)], true⟩ 
  (.node 
  (.node 
  (.node .nil 293 ⟨.func, 1, 8, [.nilfn], false⟩ .nil) 294 ⟨.func, 1, 8, [.nilfn], false⟩ .nil) 295 ⟨.func, 1, 8, [.nilfn], false⟩ 
  (.node .nil 296 ⟨.struct [(0, 55), (4, 75)], 5, 56, [.dat (.int .i64 0), .dat (.int .i64 0), .dat (.int .i64 0), .dat (.int .i64 0), .dat (.list .nil 0 [])], false⟩ .nil)))))) 297 ⟨.struct [(0, 55), (4, 75)], 5, 56, [.dat (.int .i64 0), .dat (.int .i64 0), .dat (.int .i64 0), .dat (.int .i64 0), .dat (.list .nil 0 [])], false⟩ 
  (.node 
  (.node 
  (.node 
  (.node 
  (.node 
  (.node 
  (.node .nil 299 ⟨.func, 1, 8, [.nilfn], false⟩ .nil) 300 ⟨.func, 1, 8, [.nilfn], false⟩ .nil) 301 ⟨.func, 1, 8, [.nilfn], false⟩ 
  (.node 
  (.node .nil 302 ⟨.ptr 254, 1, 8, [.nilp], false⟩ .nil) 303 ⟨.func, 1, 8, [.nilfn], false⟩ .nil)) 304 ⟨.func, 1, 8, [.nilfn], false⟩ 
  (.node 
  (.node 
  (.node .nil 305 ⟨.func, 1, 8, [.nilfn], false⟩ .nil) 306 ⟨.func, 1, 8, [.nilfn], false⟩ .nil) 308 ⟨.func, 1, 8, [.nilfn], false⟩ 
  (.node 
  (.node .nil 309 ⟨.struct [(0, 4), (1, 56), (2, 9)], 3, 32, [.dat (.bool false), .dat (.int .u64 0), .dat (.str ⟨#[]⟩)], true⟩ .nil) 310 ⟨.struct [(0, 4), (1, 56), (2, 9)], 3, 32, [.dat (.bool false), .dat (.int .u64 0), .dat (.str ⟨#[]⟩)], true⟩ .nil))) 312 ⟨.func, 1, 8, [.nilfn], false⟩ 
  (.node 
  (.node 
  (.node 
  (.node .nil 313 ⟨.func, 1, 8, [.nilfn], false⟩ .nil) 315 ⟨.func, 1, 8, [.nilfn], false⟩ .nil) 316 ⟨.func, 1, 8, [.nilfn], false⟩ 
  (.node 
  (.node .nil 317 ⟨.func, 1, 8, [.nilfn], false⟩ .nil) 318 ⟨.func, 1, 8, [.nilfn], false⟩ .nil)) 319 ⟨.func, 1, 8, [.nilfn], false⟩ 
  (.node 
  (.node 
  (.node .nil 320 ⟨.func, 1, 8, [.nilfn], false⟩ .nil) 321 ⟨.func, 1, 8, [.nilfn], false⟩ .nil) 322 ⟨.func, 1, 8, [.nilfn], false⟩ 
  (.node .nil 324 ⟨.func, 1, 8, [.nilfn], false⟩ .nil)))) 325 ⟨.func, 1, 8, [.nilfn], false⟩ 
  (.node 
  (.node 
  (.node 
  (.node 
  (.node .nil 326 ⟨.ptr 354, 1, 8, [.nilp], false⟩ .nil) 327 ⟨.func, 1, 8, [.nilfn], false⟩ .nil) 328 ⟨.func, 1, 8, [.nilfn], false⟩ 
  (.node 
  (.node .nil 329 ⟨.func, 1, 8, [.nilfn], false⟩ .nil) 330 ⟨.func, 1, 8, [.nilfn], false⟩ .nil)) 331 ⟨.func, 1, 8, [.nilfn], false⟩ 
  (.node 
  (.node 
  (.node .nil 332 ⟨.slice 56, 1, 24, [.dat (.list .nil 0 [])], false⟩ .nil) 333 ⟨.func, 1, 8, [.nilfn], false⟩ .nil) 334 ⟨.func, 1, 8, [.nilfn], false⟩ 
  (.node .nil 336 ⟨.func, 1, 8, [.nilfn], false⟩ .nil))) 337 ⟨.func, 1, 8, [.nilfn], false⟩ 
  (.node 
  (.node 
  (.node 
  (.node .nil 338 ⟨.func, 1, 8, [.nilfn], false⟩ .nil) 339 ⟨.func, 1, 8, [.nilfn], false⟩ .nil) 341 ⟨.func, 1, 8, [.nilfn], false⟩ 
  (.node 
  (.node .nil 342 ⟨.func, 1, 8, [.nilfn], false⟩ .nil) 343 ⟨.ptr 345, 1, 8, [.nilp], false⟩ .nil)) 344 ⟨.struct [(0, 343), (1, 96)], 2, 32, [.nilp, .dat (.list .nil 0 [])], false⟩ 
  (.node 
  (.node 
  (.node .nil 345 ⟨.struct [(0, 343), (1, 96)], 2, 32, [.nilp, .dat (.list .nil 0 [])], false⟩ .nil) 346 ⟨.iface, 1, 16, [.nili], false⟩ .nil) 347 ⟨.iface, 1, 16, [.nili], false⟩ 
  (.node .nil 349 ⟨.func, 1, 8, [.nilfn], false⟩ .nil))))) 350 ⟨.arr 8 53, 8, 32, [.dat (.int .u32 0), .dat (.int .u32 0), .dat (.int .u32 0), .dat (.int .u32 0), .dat (.int .u32 0), .dat (.int .u32 0), .dat (.int .u32 0), .dat (.int .u32 0)], true⟩ 
  (.node 
  (.node 
  (.node 
  (.node 
  (.node 
  (.node .nil 351 ⟨.arr 8 53, 8, 32, [.dat (.int .u32 0), .dat (.int .u32 0), .dat (.int .u32 0), .dat (.int .u32 0), .dat (.int .u32 0), .dat (.int .u32 0), .dat (.int .u32 0), .dat (.int .u32 0)], true⟩ .nil) 352 ⟨.func, 1, 8, [.nilfn], false⟩ .nil) 353 ⟨.struct [(0, 351), (8, 96), (9, 56)], 10, 64, [.dat (.int .u32 0), .dat (.int .u32 0), .dat (.int .u32 0), .dat (.int .u32 0), .dat (.int .u32 0), .dat (.int .u32 0), .dat (.int .u32 0), .dat (.int .u32 0), .dat (.list .nil 0 []), .dat (.int .u64 0)], false⟩ 
  (.node 
  (.node .nil 354 ⟨.struct [(0, 351), (8, 96), (9, 56)], 10, 64, [.dat (.int .u32 0), .dat (.int .u32 0), .dat (.int .u32 0), .dat (.int .u32 0), .dat (.int .u32 0), .dat (.int .u32 0), .dat (.int .u32 0), .dat (.int .u32 0), .dat (.list .nil 0 []), .dat (.int .u64 0)], false⟩ .nil) 355 ⟨.func, 1, 8, [.nilfn], false⟩ .nil)) 356 ⟨.slice 53, 1, 24, [.dat (.list .nil 0 [])], false⟩ 
  (.node 
  (.node 
  (.node .nil 357 ⟨.func, 1, 8, [.nilfn], false⟩ .nil) 358 ⟨.func, 1, 8, [.nilfn], false⟩ .nil) 359 ⟨.arr 256 4, 256, 256, List.replicate 256 (.dat (.bool false)), true⟩ 
  (.node 
  (.node .nil 361 ⟨.func, 1, 8, [.nilfn], false⟩ .nil) 362 ⟨.func, 1, 8, [.nilfn], false⟩ .nil))) 363 ⟨.ptr 359, 1, 8, [.nilp], false⟩ 
  (.node 
  (.node 
  (.node 
  (.node .nil 365 ⟨.func, 1, 8, [.nilfn], false⟩ .nil) 367 ⟨.func, 1, 8, [.nilfn], false⟩ .nil) 368 ⟨.ptr 5, 1, 8, [.nilp], false⟩ 
  (.node 
  (.node .nil 369 ⟨.arr 64 53, 64, 256, List.replicate 64 (.dat (.int .u32 0)), true⟩ .nil) 370 ⟨.func, 1, 8, [.nilfn], false⟩ .nil)) 371 ⟨.func, 1, 8, [.nilfn], false⟩ 
  (.node 
  (.node 
  (.node .nil 372 ⟨.func, 1, 8, [.nilfn], false⟩ .nil) 373 ⟨.func, 1, 8, [.nilfn], false⟩ .nil) 375 ⟨.func, 1, 8, [.nilfn], false⟩ 
  (.node .nil 376 ⟨.func, 1, 8, [.nilfn], false⟩ .nil)))) 378 ⟨.func, 1, 8, [.nilfn], false⟩ 
  (.node 
  (.node 
  (.node 
  (.node 
  (.node .nil 379 ⟨.func, 1, 8, [.nilfn], false⟩ .nil) 380 ⟨.arr 256 5, 256, 256, List.replicate 256 (.dat (.int .u8 0)), true⟩ .nil) 381 ⟨.struct [(0, 5), (1, 5)], 2, 2, [.dat (.int .u8 0), .dat (.int .u8 0)], true⟩ 
  (.node 
  (.node .nil 382 ⟨.struct [(0, 5), (1, 5)], 2, 2, [.dat (.int .u8 0), .dat (.int .u8 0)], true⟩ .nil) 383 ⟨.arr 16 382, 32, 32, List.replicate 32 (.dat (.int .u8 0)), true⟩ .nil)) 384 ⟨.func, 1, 8, [.nilfn], false⟩ 
  (.node 
  (.node 
  (.node .nil 385 ⟨.func, 1, 8, [.nilfn], false⟩ .nil) 386 ⟨.func, 1, 8, [.nilfn], false⟩ .nil) 387 ⟨.struct [(0, 17), (1, 17), (2, 17), (3, 9)], 4, 40, [.nilp, .nilp, .nilp, .dat (.str ⟨#[]⟩)], false⟩ 
  (.node .nil 388 ⟨.struct [(0, 17), (1, 17), (2, 17), (3, 9)], 4, 40, [.nilp, .nilp, .nilp, .dat (.str ⟨#[]⟩)], false⟩ .nil))) 389 ⟨.arr 0 16, 0, 0, [], false⟩ 
  (.node 
  (.node 
  (.node 
  (.node .nil 390 ⟨.struct [(0, 389)], 0, 0, [], false⟩ .nil) 391 ⟨.struct [(0, 389)], 0, 0, [], false⟩ .nil) 392 ⟨.int .u8, 1, 1, [.dat (.int .u8 0)], true⟩ 
  (.node 
  (.node .nil 393 ⟨.int .u8, 1, 1, [.dat (.int .u8 0)], true⟩ .nil) 394 ⟨.func, 1, 8, [.nilfn], false⟩ .nil)) 395 ⟨.int .i32, 1, 4, [.dat (.int .i32 0)], true⟩ 
  (.node 
  (.node 
  (.node .nil 396 ⟨.int .i32, 1, 4, [.dat (.int .i32 0)], true⟩ .nil) 397 ⟨.struct [(0, 12), (1, 12), (2, 53), (3, 392), (4, 5), (5, 5), (6, 393), (7, 394), (8, 368), (9, 395), (10, 396)], 11, 48, [.dat (.int .u64 0), .dat (.int .u64 0), .dat (.int .u32 0), .dat (.int .u8 0), .dat (.int .u8 0), .dat (.int .u8 0), .dat (.int .u8 0), .nilfn, .nilp, .dat (.int .i32 0), .dat (.int .i32 0)], false⟩ .nil) 398 ⟨.struct [(0, 12), (1, 12), (2, 53), (3, 392), (4, 5), (5, 5), (6, 393), (7, 394), (8, 368), (9, 395), (10, 396)], 11, 48, [.dat (.int .u64 0), .dat (.int .u64 0), .dat (.int .u32 0), .dat (.int .u8 0), .dat (.int .u8 0), .dat (.int .u8 0), .dat (.int .u8 0), .nilfn, .nilp, .dat (.int .i32 0), .dat (.int .i32 0)], false⟩ 
  (.node .nil 399 ⟨.func, 1, 8, [.nilfn], false⟩ .nil))))))))
def TT : Tab := fun t => TTree.get t
theorem TT_ok : TabOk Go.Proofs.Tryz.prog TT := fun _ _ h => BT.get_all (BT.all_ok (q := tyOk Go.Proofs.Tryz.prog) (show TTree.all (tyOk Go.Proofs.Tryz.prog) = true by kernel_rfl)) h
end Go.Proofs.YtjicjmpkgpbdbaaGreatDoor
