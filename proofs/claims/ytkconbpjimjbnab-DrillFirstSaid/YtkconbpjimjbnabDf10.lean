/- The table of types of this seat, and that it is right. -/
import Derived.Test.YtkconbpjimjbnabDf9
import Derived.Test.YtkconbpjimjbnabDf5
import Derived.Test.YtkconbpjimjbnabProg
import Derived.KernelRfl
section
namespace Go.Eng
open Go Go.Eng
set_option maxRecDepth 100000
def TTree : BT TI :=
  
  (.node 
  (.node 
  (.node 
  (.node 
  (.node 
  (.node 
  (.node 
  (.node .nil 1 ⟨.func, 1, 8, [.nilfn], false⟩ .nil) 2 ⟨.int .i64, 1, 8, [.dat (.int .i64 0)], true⟩ .nil) 3 ⟨.int .i64, 1, 8, [.dat (.int .i64 0)], true⟩ 
  (.node 
  (.node .nil 4 ⟨.bool, 1, 1, [.dat (.bool false)], true⟩ .nil) 5 ⟨.int .u8, 1, 1, [.dat (.int .u8 0)], true⟩ .nil)) 6 ⟨.int .u8, 1, 1, [.dat (.int .u8 0)], true⟩ 
  (.node 
  (.node 
  (.node .nil 7 ⟨.struct [(0, 2), (1, 3), (2, 4), (3, 6)], 4, 24, [.dat (.int .i64 0), .dat (.int .i64 0), .dat (.bool false), .dat (.int .u8 0)], true⟩ .nil) 8 ⟨.struct [(0, 2), (1, 3), (2, 4), (3, 6)], 4, 24, [.dat (.int .i64 0), .dat (.int .i64 0), .dat (.bool false), .dat (.int .u8 0)], true⟩ .nil) 9 ⟨.str, 1, 16, [.dat (.str ⟨#[]⟩)], true⟩ 
  (.node .nil 10 ⟨.str, 1, 16, [.dat (.str ⟨#[]⟩)], true⟩ .nil))) 11 ⟨.str, 1, 16, [.dat (.str ⟨#[]⟩)], true⟩ 
  (.node 
  (.node 
  (.node 
  (.node .nil 12 ⟨.int .u64, 1, 8, [.dat (.int .u64 0)], true⟩ .nil) 13 ⟨.struct [(0, 9), (1, 12)], 2, 24, [.dat (.str ⟨#[]⟩), .dat (.int .u64 0)], false⟩ .nil) 14 ⟨.struct [(0, 9), (1, 12)], 2, 24, [.dat (.str ⟨#[]⟩), .dat (.int .u64 0)], false⟩ 
  (.node .nil 15 ⟨.ptr 167, 1, 8, [.nilp], false⟩ .nil)) 16 ⟨.ptr 170, 1, 8, [.nilp], false⟩ 
  (.node 
  (.node 
  (.node .nil 17 ⟨.ptr 177, 1, 8, [.nilp], false⟩ .nil) 18 ⟨.struct [(0, 17)], 1, 8, [.nilp], false⟩ .nil) 19 ⟨.struct [(0, 17)], 1, 8, [.nilp], false⟩ 
  (.node .nil 20 ⟨.iface, 1, 16, [.nili], false⟩ .nil)))) 21 ⟨.int .i32, 1, 4, [.dat (.int .i32 0)], true⟩ 
  (.node 
  (.node 
  (.node 
  (.node 
  (.node .nil 22 ⟨.int .u64, 1, 8, [.dat (.int .u64 0)], true⟩ .nil) 23 ⟨.slice 3, 1, 24, [.dat (.list .nil 0 [])], false⟩ .nil) 24 ⟨.ptr 65, 1, 8, [.nilp], false⟩ 
  (.node 
  (.node .nil 25 ⟨.func, 1, 8, [.nilfn], false⟩ .nil) 26 ⟨.ptr 28, 1, 8, [.nilp], false⟩ .nil)) 27 ⟨.struct [(0, 22)], 1, 8, [.dat (.int .u64 0)], true⟩ 
  (.node 
  (.node 
  (.node .nil 28 ⟨.struct [(0, 22)], 1, 8, [.dat (.int .u64 0)], true⟩ .nil) 29 ⟨.func, 1, 8, [.nilfn], false⟩ .nil) 30 ⟨.func, 1, 8, [.nilfn], false⟩ 
  (.node .nil 31 ⟨.func, 1, 8, [.nilfn], false⟩ .nil))) 32 ⟨.func, 1, 8, [.nilfn], false⟩ 
  (.node 
  (.node 
  (.node 
  (.node .nil 33 ⟨.slice 4, 1, 24, [.dat (.list .nil 0 [])], false⟩ .nil) 34 ⟨.struct [(0, 3), (1, 3), (2, 3), (3, 3), (4, 9), (5, 3), (6, 33)], 7, 80, [.dat (.int .i64 0), .dat (.int .i64 0), .dat (.int .i64 0), .dat (.int .i64 0), .dat (.str ⟨#[]⟩), .dat (.int .i64 0), .dat (.list .nil 0 [])], false⟩ .nil) 35 ⟨.struct [(0, 3), (1, 3), (2, 3), (3, 3), (4, 9), (5, 3), (6, 33)], 7, 80, [.dat (.int .i64 0), .dat (.int .i64 0), .dat (.int .i64 0), .dat (.int .i64 0), .dat (.str ⟨#[]⟩), .dat (.int .i64 0), .dat (.list .nil 0 [])], false⟩ 
  (.node .nil 36 ⟨.func, 1, 8, [.nilfn], false⟩ .nil)) 37 ⟨.int .u32, 1, 4, [.dat (.int .u32 0)], true⟩ 
  (.node 
  (.node 
  (.node .nil 38 ⟨.struct [(0, 3), (1, 3), (2, 3), (3, 3)], 4, 32, [.dat (.int .i64 0), .dat (.int .i64 0), .dat (.int .i64 0), .dat (.int .i64 0)], true⟩ .nil) 39 ⟨.struct [(0, 3), (1, 3), (2, 3), (3, 3)], 4, 32, [.dat (.int .i64 0), .dat (.int .i64 0), .dat (.int .i64 0), .dat (.int .i64 0)], true⟩ .nil) 40 ⟨.struct [(0, 37), (1, 39), (5, 22)], 6, 48, [.dat (.int .u32 0), .dat (.int .i64 0), .dat (.int .i64 0), .dat (.int .i64 0), .dat (.int .i64 0), .dat (.int .u64 0)], true⟩ 
  (.node .nil 41 ⟨.struct [(0, 37), (1, 39), (5, 22)], 6, 48, [.dat (.int .u32 0), .dat (.int .i64 0), .dat (.int .i64 0), .dat (.int .i64 0), .dat (.int .i64 0), .dat (.int .u64 0)], true⟩ .nil))))) 42 ⟨.slice 35, 1, 24, [.dat (.list .nil 0 [])], false⟩ 
  (.node 
  (.node 
  (.node 
  (.node 
  (.node 
  (.node .nil 43 ⟨.int .i64, 1, 8, [.dat (.int .i64 0)], true⟩ .nil) 45 ⟨.func, 1, 8, [.nilfn], false⟩ .nil) 46 ⟨.func, 1, 8, [.nilfn], false⟩ 
  (.node 
  (.node .nil 47 ⟨.func, 1, 8, [.nilfn], false⟩ .nil) 48 ⟨.func, 1, 8, [.nilfn], false⟩ .nil)) 49 ⟨.func, 1, 8, [.nilfn], false⟩ 
  (.node 
  (.node 
  (.node .nil 50 ⟨.slice 53, 1, 24, [.dat (.list .nil 0 [])], false⟩ .nil) 51 ⟨.slice 9, 1, 24, [.dat (.list .nil 0 [])], false⟩ .nil) 52 ⟨.struct [(0, 3), (1, 22), (2, 22), (3, 37), (4, 37), (5, 3), (6, 3), (7, 3), (8, 3), (9, 9), (10, 51)], 11, 104, [.dat (.int .i64 0), .dat (.int .u64 0), .dat (.int .u64 0), .dat (.int .u32 0), .dat (.int .u32 0), .dat (.int .i64 0), .dat (.int .i64 0), .dat (.int .i64 0), .dat (.int .i64 0), .dat (.str ⟨#[]⟩), .dat (.list .nil 0 [])], false⟩ 
  (.node .nil 53 ⟨.struct [(0, 3), (1, 22), (2, 22), (3, 37), (4, 37), (5, 3), (6, 3), (7, 3), (8, 3), (9, 9), (10, 51)], 11, 104, [.dat (.int .i64 0), .dat (.int .u64 0), .dat (.int .u64 0), .dat (.int .u32 0), .dat (.int .u32 0), .dat (.int .i64 0), .dat (.int .i64 0), .dat (.int .i64 0), .dat (.int .i64 0), .dat (.str ⟨#[]⟩), .dat (.list .nil 0 [])], false⟩ .nil))) 54 ⟨.arr 8 3, 8, 64, [.dat (.int .i64 0), .dat (.int .i64 0), .dat (.int .i64 0), .dat (.int .i64 0), .dat (.int .i64 0), .dat (.int .i64 0), .dat (.int .i64 0), .dat (.int .i64 0)], true⟩ 
  (.node 
  (.node 
  (.node 
  (.node .nil 55 ⟨.struct [(0, 54), (8, 3), (9, 3), (10, 3)], 11, 88, [.dat (.int .i64 0), .dat (.int .i64 0), .dat (.int .i64 0), .dat (.int .i64 0), .dat (.int .i64 0), .dat (.int .i64 0), .dat (.int .i64 0), .dat (.int .i64 0), .dat (.int .i64 0), .dat (.int .i64 0), .dat (.int .i64 0)], true⟩ .nil) 56 ⟨.struct [(0, 54), (8, 3), (9, 3), (10, 3)], 11, 88, [.dat (.int .i64 0), .dat (.int .i64 0), .dat (.int .i64 0), .dat (.int .i64 0), .dat (.int .i64 0), .dat (.int .i64 0), .dat (.int .i64 0), .dat (.int .i64 0), .dat (.int .i64 0), .dat (.int .i64 0), .dat (.int .i64 0)], true⟩ .nil) 57 ⟨.func, 1, 8, [.nilfn], false⟩ 
  (.node .nil 58 ⟨.struct [(0, 54), (8, 3), (9, 3), (10, 3)], 11, 88, [.dat (.int .i64 0), .dat (.int .i64 0), .dat (.int .i64 0), .dat (.int .i64 0), .dat (.int .i64 0), .dat (.int .i64 0), .dat (.int .i64 0), .dat (.int .i64 0), .dat (.int .i64 0), .dat (.int .i64 0), .dat (.int .i64 0)], true⟩ .nil)) 59 ⟨.func, 1, 8, [.nilfn], false⟩ 
  (.node 
  (.node 
  (.node .nil 60 ⟨.func, 1, 8, [.nilfn], false⟩ .nil) 61 ⟨.func, 1, 8, [.nilfn], false⟩ .nil) 62 ⟨.func, 1, 8, [.nilfn], false⟩ 
  (.node .nil 63 ⟨.func, 1, 8, [.nilfn], false⟩ .nil)))) 64 ⟨.struct [(0, 22)], 1, 8, [.dat (.int .u64 0)], true⟩ 
  (.node 
  (.node 
  (.node 
  (.node 
  (.node .nil 65 ⟨.struct [(0, 22)], 1, 8, [.dat (.int .u64 0)], true⟩ .nil) 66 ⟨.int .u64, 1, 8, [.dat (.int .u64 0)], true⟩ .nil) 67 ⟨.func, 1, 8, [.nilfn], false⟩ 
  (.node .nil 68 ⟨.func, 1, 8, [.nilfn], false⟩ .nil)) 69 ⟨.func, 1, 8, [.nilfn], false⟩ 
  (.node 
  (.node 
  (.node .nil 70 ⟨.func, 1, 8, [.nilfn], false⟩ .nil) 71 ⟨.func, 1, 8, [.nilfn], false⟩ .nil) 72 ⟨.func, 1, 8, [.nilfn], false⟩ 
  (.node .nil 74 ⟨.func, 1, 8, [.nilfn], false⟩ .nil))) 75 ⟨.func, 1, 8, [.nilfn], false⟩ 
  (.node 
  (.node 
  (.node 
  (.node .nil 76 ⟨.func, 1, 8, [.nilfn], false⟩ .nil) 78 ⟨.func, 1, 8, [.nilfn], false⟩ .nil) 79 ⟨.arr 3 3, 3, 24, [.dat (.int .i64 0), .dat (.int .i64 0), .dat (.int .i64 0)], true⟩ 
  (.node .nil 80 ⟨.slice 5, 1, 24, [.dat (.list .nil 0 [])], false⟩ .nil)) 81 ⟨.func, 1, 8, [.nilfn], false⟩ 
  (.node 
  (.node 
  (.node .nil 82 ⟨.ptr 102, 1, 8, [.nilp], false⟩ .nil) 84 ⟨.func, 1, 8, [.nilfn], false⟩ .nil) 85 ⟨.func, 1, 8, [.nilfn], false⟩ 
  (.node .nil 86 ⟨.func, 1, 8, [.nilfn], false⟩ .nil)))))) 88 ⟨.func, 1, 8, [.nilfn], false⟩ 
  (.node 
  (.node 
  (.node 
  (.node 
  (.node 
  (.node 
  (.node .nil 89 ⟨.func, 1, 8, [.nilfn], false⟩ .nil) 91 ⟨.func, 1, 8, [.nilfn], false⟩ .nil) 93 ⟨.func, 1, 8, [.nilfn], false⟩ 
  (.node 
  (.node .nil 94 ⟨.func, 1, 8, [.nilfn], false⟩ .nil) 95 ⟨.func, 1, 8, [.nilfn], false⟩ .nil)) 96 ⟨.func, 1, 8, [.nilfn], false⟩ 
  (.node 
  (.node 
  (.node .nil 97 ⟨.func, 1, 8, [.nilfn], false⟩ .nil) 98 ⟨.func, 1, 8, [.nilfn], false⟩ .nil) 99 ⟨.func, 1, 8, [.nilfn], false⟩ 
  (.node .nil 100 ⟨.func, 1, 8, [.nilfn], false⟩ .nil))) 101 ⟨.struct [(0, 39), (4, 51)], 5, 56, [.dat (.int .i64 0), .dat (.int .i64 0), .dat (.int .i64 0), .dat (.int .i64 0), .dat (.list .nil 0 [])], false⟩ 
  (.node 
  (.node 
  (.node 
  (.node .nil 102 ⟨.struct [(0, 39), (4, 51)], 5, 56, [.dat (.int .i64 0), .dat (.int .i64 0), .dat (.int .i64 0), .dat (.int .i64 0), .dat (.list .nil 0 [])], false⟩ .nil) 103 ⟨.func, 1, 8, [.nilfn], false⟩ .nil) 104 ⟨.func, 1, 8, [.nilfn], false⟩ 
  (.node .nil 105 ⟨.func, 1, 8, [.nilfn], false⟩ .nil)) 106 ⟨.func, 1, 8, [.nilfn], false⟩ 
  (.node 
  (.node 
  (.node .nil 107 ⟨.func, 1, 8, [.nilfn], false⟩ .nil) 109 ⟨.func, 1, 8, [.nilfn], false⟩ .nil) 110 ⟨.func, 1, 8, [.nilfn], false⟩ 
  (.node .nil 111 ⟨.ptr 113, 1, 8, [.nilp], false⟩ .nil)))) 112 ⟨.struct [(0, 80), (1, 4)], 2, 32, [.dat (.list .nil 0 []), .dat (.bool false)], false⟩ 
  (.node 
  (.node 
  (.node 
  (.node 
  (.node .nil 113 ⟨.struct [(0, 80), (1, 4)], 2, 32, [.dat (.list .nil 0 []), .dat (.bool false)], false⟩ .nil) 114 ⟨.func, 1, 8, [.nilfn], false⟩ .nil) 115 ⟨.func, 1, 8, [.nilfn], false⟩ 
  (.node 
  (.node .nil 116 ⟨.func, 1, 8, [.nilfn], false⟩ .nil) 117 ⟨.func, 1, 8, [.nilfn], false⟩ .nil)) 118 ⟨.func, 1, 8, [.nilfn], false⟩ 
  (.node 
  (.node 
  (.node .nil 119 ⟨.func, 1, 8, [.nilfn], false⟩ .nil) 120 ⟨.func, 1, 8, [.nilfn], false⟩ .nil) 121 ⟨.func, 1, 8, [.nilfn], false⟩ 
  (.node .nil 122 ⟨.func, 1, 8, [.nilfn], false⟩ .nil))) 123 ⟨.func, 1, 8, [.nilfn], false⟩ 
  (.node 
  (.node 
  (.node 
  (.node .nil 124 ⟨.func, 1, 8, [.nilfn], false⟩ .nil) 125 ⟨.struct [(0, 3), (1, 22), (2, 22), (3, 37), (4, 37), (5, 3), (6, 3), (7, 3), (8, 3), (9, 9)], 10, 80, [.dat (.int .i64 0), .dat (.int .u64 0), .dat (.int .u64 0), .dat (.int .u32 0), .dat (.int .u32 0), .dat (.int .i64 0), .dat (.int .i64 0), .dat (.int .i64 0), .dat (.int .i64 0), .dat (.str ⟨#[]⟩)], true⟩ .nil) 126 ⟨.struct [(0, 3), (1, 22), (2, 22), (3, 37), (4, 37), (5, 3), (6, 3), (7, 3), (8, 3), (9, 9)], 10, 80, [.dat (.int .i64 0), .dat (.int .u64 0), .dat (.int .u64 0), .dat (.int .u32 0), .dat (.int .u32 0), .dat (.int .i64 0), .dat (.int .i64 0), .dat (.int .i64 0), .dat (.int .i64 0), .dat (.str ⟨#[]⟩)], true⟩ 
  (.node .nil 127 ⟨.func, 1, 8, [.nilfn], false⟩ .nil)) 128 ⟨.func, 1, 8, [.nilfn], false⟩ 
  (.node 
  (.node 
  (.node .nil 130 ⟨.func, 1, 8, [.nilfn], false⟩ .nil) 131 ⟨.func, 1, 8, [.nilfn], false⟩ .nil) 132 ⟨.ptr 134, 1, 8, [.nilp], false⟩ 
  (.node .nil 133 ⟨.struct [(0, 132), (1, 80)], 2, 32, [.nilp, .dat (.list .nil 0 [])], false⟩ .nil))))) 134 ⟨.struct [(0, 132), (1, 80)], 2, 32, [.nilp, .dat (.list .nil 0 [])], false⟩ 
  (.node 
  (.node 
  (.node 
  (.node 
  (.node 
  (.node .nil 135 ⟨.func, 1, 8, [.nilfn], false⟩ .nil) 136 ⟨.iface, 1, 16, [.nili], false⟩ .nil) 137 ⟨.iface, 1, 16, [.nili], false⟩ 
  (.node 
  (.node .nil 139 ⟨.func, 1, 8, [.nilfn], false⟩ .nil) 140 ⟨.func, 1, 8, [.nilfn], false⟩ .nil)) 141 ⟨.ptr 155, 1, 8, [.nilp], false⟩ 
  (.node 
  (.node 
  (.node .nil 142 ⟨.func, 1, 8, [.nilfn], false⟩ .nil) 143 ⟨.func, 1, 8, [.nilfn], false⟩ .nil) 144 ⟨.arr 256 37, 256, 1024, List.replicate 256 (.dat (.int .u32 0)), true⟩ 
  (.node .nil 145 ⟨.func, 1, 8, [.nilfn], false⟩ .nil))) 147 ⟨.func, 1, 8, [.nilfn], false⟩ 
  (.node 
  (.node 
  (.node 
  (.node .nil 149 ⟨.func, 1, 8, [.nilfn], false⟩ .nil) 150 ⟨.ptr 5, 1, 8, [.nilp], false⟩ .nil) 151 ⟨.arr 8 37, 8, 32, [.dat (.int .u32 0), .dat (.int .u32 0), .dat (.int .u32 0), .dat (.int .u32 0), .dat (.int .u32 0), .dat (.int .u32 0), .dat (.int .u32 0), .dat (.int .u32 0)], true⟩ 
  (.node .nil 152 ⟨.arr 8 37, 8, 32, [.dat (.int .u32 0), .dat (.int .u32 0), .dat (.int .u32 0), .dat (.int .u32 0), .dat (.int .u32 0), .dat (.int .u32 0), .dat (.int .u32 0), .dat (.int .u32 0)], true⟩ .nil)) 153 ⟨.func, 1, 8, [.nilfn], false⟩ 
  (.node 
  (.node 
  (.node .nil 154 ⟨.struct [(0, 152), (8, 80), (9, 22)], 10, 64, [.dat (.int .u32 0), .dat (.int .u32 0), .dat (.int .u32 0), .dat (.int .u32 0), .dat (.int .u32 0), .dat (.int .u32 0), .dat (.int .u32 0), .dat (.int .u32 0), .dat (.list .nil 0 []), .dat (.int .u64 0)], false⟩ .nil) 155 ⟨.struct [(0, 152), (8, 80), (9, 22)], 10, 64, [.dat (.int .u32 0), .dat (.int .u32 0), .dat (.int .u32 0), .dat (.int .u32 0), .dat (.int .u32 0), .dat (.int .u32 0), .dat (.int .u32 0), .dat (.int .u32 0), .dat (.list .nil 0 []), .dat (.int .u64 0)], false⟩ .nil) 156 ⟨.func, 1, 8, [.nilfn], false⟩ 
  (.node .nil 157 ⟨.func, 1, 8, [.nilfn], false⟩ .nil)))) 159 ⟨.func, 1, 8, [.nilfn], false⟩ 
  (.node 
  (.node 
  (.node 
  (.node 
  (.node .nil 160 ⟨.func, 1, 8, [.nilfn], false⟩ .nil) 161 ⟨.arr 64 37, 64, 256, List.replicate 64 (.dat (.int .u32 0)), true⟩ .nil) 162 ⟨.func, 1, 8, [.nilfn], false⟩ 
  (.node .nil 163 ⟨.func, 1, 8, [.nilfn], false⟩ .nil)) 164 ⟨.func, 1, 8, [.nilfn], false⟩ 
  (.node 
  (.node 
  (.node .nil 165 ⟨.slice 37, 1, 24, [.dat (.list .nil 0 [])], false⟩ .nil) 166 ⟨.struct [(0, 17), (1, 17), (2, 17), (3, 9)], 4, 40, [.nilp, .nilp, .nilp, .dat (.str ⟨#[]⟩)], false⟩ .nil) 167 ⟨.struct [(0, 17), (1, 17), (2, 17), (3, 9)], 4, 40, [.nilp, .nilp, .nilp, .dat (.str ⟨#[]⟩)], false⟩ 
  (.node .nil 168 ⟨.arr 0 16, 0, 0, [], false⟩ .nil))) 169 ⟨.struct [(0, 168)], 0, 0, [], false⟩ 
  (.node 
  (.node 
  (.node 
  (.node .nil 170 ⟨.struct [(0, 168)], 0, 0, [], false⟩ .nil) 171 ⟨.int .u8, 1, 1, [.dat (.int .u8 0)], true⟩ .nil) 172 ⟨.int .u8, 1, 1, [.dat (.int .u8 0)], true⟩ 
  (.node .nil 173 ⟨.func, 1, 8, [.nilfn], false⟩ .nil)) 174 ⟨.int .i32, 1, 4, [.dat (.int .i32 0)], true⟩ 
  (.node 
  (.node 
  (.node .nil 175 ⟨.int .i32, 1, 4, [.dat (.int .i32 0)], true⟩ .nil) 176 ⟨.struct [(0, 12), (1, 12), (2, 37), (3, 171), (4, 5), (5, 5), (6, 172), (7, 173), (8, 150), (9, 174), (10, 175)], 11, 48, [.dat (.int .u64 0), .dat (.int .u64 0), .dat (.int .u32 0), .dat (.int .u8 0), .dat (.int .u8 0), .dat (.int .u8 0), .dat (.int .u8 0), .nilfn, .nilp, .dat (.int .i32 0), .dat (.int .i32 0)], false⟩ .nil) 177 ⟨.struct [(0, 12), (1, 12), (2, 37), (3, 171), (4, 5), (5, 5), (6, 172), (7, 173), (8, 150), (9, 174), (10, 175)], 11, 48, [.dat (.int .u64 0), .dat (.int .u64 0), .dat (.int .u32 0), .dat (.int .u8 0), .dat (.int .u8 0), .dat (.int .u8 0), .dat (.int .u8 0), .nilfn, .nilp, .dat (.int .i32 0), .dat (.int .i32 0)], false⟩ 
  (.node .nil 178 ⟨.func, 1, 8, [.nilfn], false⟩ .nil)))))))
def TT : Tab := fun t => TTree.get t
theorem TT_ok : TabOk Go.Proofs.Try.prog TT := fun _ _ h => BT.get_all (BT.all_ok (q := tyOk Go.Proofs.Try.prog) (show TTree.all (tyOk Go.Proofs.Try.prog) = true by kernel_rfl)) h
end Go.Eng
end
