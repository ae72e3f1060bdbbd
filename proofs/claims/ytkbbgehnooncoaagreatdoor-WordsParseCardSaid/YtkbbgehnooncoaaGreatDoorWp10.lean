/- The table of types of this seat, and that it is right. -/
import Derived.Test.YtkbbgehnooncoaaGreatDoorWp9
import Derived.Test.YtkbbgehnooncoaaGreatDoorWp6
import Derived.Test.YtkbbgehnooncoaaGreatDoorProg
import Derived.KernelRfl
section
namespace Go.Eng
open Go Go.Eng
set_option maxRecDepth 100000
def TTree : BT TI :=
  
  (.node 
  (.node 
  (.node 
  (.node 
  (.node 
  (.node 
  (.node 
  (.node .nil 1 ⟨.func, 1, 8, [.nilfn], false⟩ .nil) 2 ⟨.int .i64, 1, 8, [.dat (.int .i64 0)], true⟩ .nil) 3 ⟨.int .i64, 1, 8, [.dat (.int .i64 0)], true⟩ 
  (.node .nil 4 ⟨.bool, 1, 1, [.dat (.bool false)], true⟩ .nil)) 5 ⟨.int .u8, 1, 1, [.dat (.int .u8 0)], true⟩ 
  (.node 
  (.node 
  (.node .nil 6 ⟨.int .u8, 1, 1, [.dat (.int .u8 0)], true⟩ .nil) 7 ⟨.struct [(0, 2), (1, 3), (2, 4), (3, 6)], 4, 24, [.dat (.int .i64 0), .dat (.int .i64 0), .dat (.bool false), .dat (.int .u8 0)], true⟩ .nil) 8 ⟨.struct [(0, 2), (1, 3), (2, 4), (3, 6)], 4, 24, [.dat (.int .i64 0), .dat (.int .i64 0), .dat (.bool false), .dat (.int .u8 0)], true⟩ 
  (.node .nil 9 ⟨.str, 1, 16, [.dat (.str ⟨#[]⟩)], true⟩ .nil))) 10 ⟨.str, 1, 16, [.dat (.str ⟨#[]⟩)], true⟩ 
  (.node 
  (.node 
  (.node 
  (.node .nil 11 ⟨.str, 1, 16, [.dat (.str ⟨#[]⟩)], true⟩ .nil) 12 ⟨.int .u64, 1, 8, [.dat (.int .u64 0)], true⟩ .nil) 13 ⟨.struct [(0, 9), (1, 12)], 2, 24, [.dat (.str ⟨#[]⟩), .dat (.int .u64 0)], false⟩ 
  (.node .nil 14 ⟨.struct [(0, 9), (1, 12)], 2, 24, [.dat (.str ⟨#[]⟩), .dat (.int .u64 0)], false⟩ .nil)) 15 ⟨.ptr 155, 1, 8, [.nilp], false⟩ 
  (.node 
  (.node .nil 16 ⟨.ptr 158, 1, 8, [.nilp], false⟩ .nil) 17 ⟨.ptr 165, 1, 8, [.nilp], false⟩ 
  (.node .nil 18 ⟨.struct [(0, 17)], 1, 8, [.nilp], false⟩ .nil)))) 19 ⟨.struct [(0, 17)], 1, 8, [.nilp], false⟩ 
  (.node 
  (.node 
  (.node 
  (.node 
  (.node .nil 20 ⟨.iface, 1, 16, [.nili], false⟩ .nil) 21 ⟨.int .i32, 1, 4, [.dat (.int .i32 0)], true⟩ .nil) 22 ⟨.slice 4, 1, 24, [.dat (.list .nil 0 [])], false⟩ 
  (.node .nil 23 ⟨.struct [(0, 3), (1, 3), (2, 3), (3, 3), (4, 9), (5, 3), (6, 22)], 7, 80, [.dat (.int .i64 0), .dat (.int .i64 0), .dat (.int .i64 0), .dat (.int .i64 0), .dat (.str ⟨#[]⟩), .dat (.int .i64 0), .dat (.list .nil 0 [])], false⟩ .nil)) 24 ⟨.struct [(0, 3), (1, 3), (2, 3), (3, 3), (4, 9), (5, 3), (6, 22)], 7, 80, [.dat (.int .i64 0), .dat (.int .i64 0), .dat (.int .i64 0), .dat (.int .i64 0), .dat (.str ⟨#[]⟩), .dat (.int .i64 0), .dat (.list .nil 0 [])], false⟩ 
  (.node 
  (.node 
  (.node .nil 25 ⟨.func, 1, 8, [.nilfn], false⟩ .nil) 26 ⟨.int .i64, 1, 8, [.dat (.int .i64 0)], true⟩ .nil) 28 ⟨.func, 1, 8, [.nilfn], false⟩ 
  (.node .nil 30 ⟨.func, 1, 8, [.nilfn], false⟩ .nil))) 31 ⟨.func, 1, 8, [.nilfn], false⟩ 
  (.node 
  (.node 
  (.node 
  (.node .nil 32 ⟨.func, 1, 8, [.nilfn], false⟩ .nil) 33 ⟨.func, 1, 8, [.nilfn], false⟩ .nil) 34 ⟨.func, 1, 8, [.nilfn], false⟩ 
  (.node .nil 36 ⟨.func, 1, 8, [.nilfn], false⟩ .nil)) 37 ⟨.func, 1, 8, [.nilfn], false⟩ 
  (.node 
  (.node .nil 38 ⟨.func, 1, 8, [.nilfn], false⟩ .nil) 39 ⟨.func, 1, 8, [.nilfn], false⟩ 
  (.node .nil 40 ⟨.slice 9, 1, 24, [.dat (.list .nil 0 [])], false⟩ .nil))))) 42 ⟨.func, 1, 8, [.nilfn], false⟩ 
  (.node 
  (.node 
  (.node 
  (.node 
  (.node 
  (.node .nil 43 ⟨.func, 1, 8, [.nilfn], false⟩ .nil) 44 ⟨.func, 1, 8, [.nilfn], false⟩ .nil) 45 ⟨.func, 1, 8, [.nilfn], false⟩ 
  (.node .nil 46 ⟨.func, 1, 8, [.nilfn], false⟩ .nil)) 47 ⟨.func, 1, 8, [.nilfn], false⟩ 
  (.node 
  (.node 
  (.node .nil 48 ⟨.func, 1, 8, [.nilfn], false⟩ .nil) 49 ⟨.func, 1, 8, [.nilfn], false⟩ .nil) 50 ⟨.ptr 53, 1, 8, [.nilp], false⟩ 
  (.node .nil 51 ⟨.slice 5, 1, 24, [.dat (.list .nil 0 [])], false⟩ .nil))) 52 ⟨.struct [(0, 50), (1, 51)], 2, 32, [.nilp, .dat (.list .nil 0 [])], false⟩ 
  (.node 
  (.node 
  (.node 
  (.node .nil 53 ⟨.struct [(0, 50), (1, 51)], 2, 32, [.nilp, .dat (.list .nil 0 [])], false⟩ .nil) 54 ⟨.iface, 1, 16, [.nili], false⟩ .nil) 55 ⟨.iface, 1, 16, [.nili], false⟩ 
  (.node .nil 56 ⟨.func, 1, 8, [.nilfn], false⟩ .nil)) 57 ⟨.func, 1, 8, [.nilfn], false⟩ 
  (.node 
  (.node .nil 58 ⟨.func, 1, 8, [.nilfn], false⟩ .nil) 59 ⟨.func, 1, 8, [.nilfn], false⟩ 
  (.node .nil 60 ⟨.func, 1, 8, [.nilfn], false⟩ .nil)))) 62 ⟨.func, 1, 8, [.nilfn], false⟩ 
  (.node 
  (.node 
  (.node 
  (.node 
  (.node .nil 63 ⟨.func, 1, 8, [.nilfn], false⟩ .nil) 64 ⟨.int .u64, 1, 8, [.dat (.int .u64 0)], true⟩ .nil) 65 ⟨.ptr 67, 1, 8, [.nilp], false⟩ 
  (.node .nil 66 ⟨.struct [(0, 9)], 1, 16, [.dat (.str ⟨#[]⟩)], true⟩ .nil)) 67 ⟨.struct [(0, 9)], 1, 16, [.dat (.str ⟨#[]⟩)], true⟩ 
  (.node 
  (.node .nil 68 ⟨.func, 1, 8, [.nilfn], false⟩ .nil) 69 ⟨.func, 1, 8, [.nilfn], false⟩ 
  (.node .nil 70 ⟨.func, 1, 8, [.nilfn], false⟩ .nil))) 71 ⟨.func, 1, 8, [.nilfn], false⟩ 
  (.node 
  (.node 
  (.node 
  (.node .nil 73 ⟨.func, 1, 8, [.nilfn], false⟩ .nil) 74 ⟨.func, 1, 8, [.nilfn], false⟩ .nil) 75 ⟨.func, 1, 8, [.nilfn], false⟩ 
  (.node .nil 76 ⟨.ptr 5, 1, 8, [.nilp], false⟩ .nil)) 77 ⟨.func, 1, 8, [.nilfn], false⟩ 
  (.node 
  (.node .nil 78 ⟨.arr 256 4, 256, 256, List.replicate 256 (.dat (.bool false)), true⟩ .nil) 79 ⟨.arr 256 4, 256, 256, List.replicate 256 (.dat (.bool false)), true⟩ 
  (.node .nil 81 ⟨.func, 1, 8, [.nilfn], false⟩ .nil)))))) 82 ⟨.func, 1, 8, [.nilfn], false⟩ 
  (.node 
  (.node 
  (.node 
  (.node 
  (.node 
  (.node 
  (.node .nil 83 ⟨.ptr 79, 1, 8, [.nilp], false⟩ .nil) 84 ⟨.func, 1, 8, [.nilfn], false⟩ .nil) 85 ⟨.func, 1, 8, [.nilfn], false⟩ 
  (.node .nil 86 ⟨.func, 1, 8, [.nilfn], false⟩ .nil)) 87 ⟨.int .u64, 1, 8, [.dat (.int .u64 0)], true⟩ 
  (.node 
  (.node 
  (.node .nil 88 ⟨.func, 1, 8, [.nilfn], false⟩ .nil) 90 ⟨.func, 1, 8, [.nilfn], false⟩ .nil) 91 ⟨.func, 1, 8, [.nilfn], false⟩ 
  (.node .nil 93 ⟨.func, 1, 8, [.nilfn], false⟩ .nil))) 94 ⟨.func, 1, 8, [.nilfn], false⟩ 
  (.node 
  (.node 
  (.node 
  (.node .nil 96 ⟨.func, 1, 8, [.nilfn], false⟩ .nil) 97 ⟨.func, 1, 8, [.nilfn], false⟩ .nil) 99 ⟨.func, 1, 8, [.nilfn], false⟩ 
  (.node .nil 100 ⟨.func, 1, 8, [.nilfn], false⟩ .nil)) 101 ⟨.func, 1, 8, [.nilfn], false⟩ 
  (.node 
  (.node .nil 102 ⟨.arr 24 5, 24, 24, List.replicate 24 (.dat (.int .u8 0)), true⟩ .nil) 103 ⟨.func, 1, 8, [.nilfn], false⟩ 
  (.node .nil 104 ⟨.func, 1, 8, [.nilfn], false⟩ .nil)))) 106 ⟨.func, 1, 8, [.nilfn], false⟩ 
  (.node 
  (.node 
  (.node 
  (.node 
  (.node .nil 107 ⟨.func, 1, 8, [.nilfn], false⟩ .nil) 108 ⟨.func, 1, 8, [.nilfn], false⟩ .nil) 109 ⟨.func, 1, 8, [.nilfn], false⟩ 
  (.node .nil 110 ⟨.func, 1, 8, [.nilfn], false⟩ .nil)) 111 ⟨.func, 1, 8, [.nilfn], false⟩ 
  (.node 
  (.node .nil 112 ⟨.func, 1, 8, [.nilfn], false⟩ .nil) 113 ⟨.func, 1, 8, [.nilfn], false⟩ 
  (.node .nil 114 ⟨.func, 1, 8, [.nilfn], false⟩ .nil))) 115 ⟨.func, 1, 8, [.nilfn], false⟩ 
  (.node 
  (.node 
  (.node 
  (.node .nil 116 ⟨.arr 20 64, 20, 160, List.replicate 20 (.dat (.int .u64 0)), true⟩ .nil) 117 ⟨.int .u32, 1, 4, [.dat (.int .u32 0)], true⟩ .nil) 118 ⟨.arr 65 5, 65, 65, List.replicate 65 (.dat (.int .u8 0)), true⟩ 
  (.node .nil 119 ⟨.func, 1, 8, [.nilfn], false⟩ .nil)) 120 ⟨.func, 1, 8, [.nilfn], false⟩ 
  (.node 
  (.node .nil 121 ⟨.func, 1, 8, [.nilfn], false⟩ .nil) 122 ⟨.int .i64, 1, 8, [.dat (.int .i64 0)], true⟩ 
  (.node .nil 124 ⟨.func, 1, 8, [.nilfn], false⟩ .nil))))) 125 ⟨.ptr 141, 1, 8, [.nilp], false⟩ 
  (.node 
  (.node 
  (.node 
  (.node 
  (.node 
  (.node .nil 126 ⟨.func, 1, 8, [.nilfn], false⟩ .nil) 127 ⟨.func, 1, 8, [.nilfn], false⟩ .nil) 128 ⟨.func, 1, 8, [.nilfn], false⟩ 
  (.node .nil 130 ⟨.func, 1, 8, [.nilfn], false⟩ .nil)) 131 ⟨.func, 1, 8, [.nilfn], false⟩ 
  (.node 
  (.node 
  (.node .nil 132 ⟨.arr 256 5, 256, 256, List.replicate 256 (.dat (.int .u8 0)), true⟩ .nil) 133 ⟨.struct [(0, 5), (1, 5)], 2, 2, [.dat (.int .u8 0), .dat (.int .u8 0)], true⟩ .nil) 134 ⟨.struct [(0, 5), (1, 5)], 2, 2, [.dat (.int .u8 0), .dat (.int .u8 0)], true⟩ 
  (.node .nil 135 ⟨.arr 16 134, 32, 32, List.replicate 32 (.dat (.int .u8 0)), true⟩ .nil))) 136 ⟨.func, 1, 8, [.nilfn], false⟩ 
  (.node 
  (.node 
  (.node 
  (.node .nil 137 ⟨.func, 1, 8, [.nilfn], false⟩ .nil) 139 ⟨.func, 1, 8, [.nilfn], false⟩ .nil) 140 ⟨.struct [(0, 9), (1, 9), (2, 55)], 3, 48, [.dat (.str ⟨#[]⟩), .dat (.str ⟨#[]⟩), .nili], false⟩ 
  (.node .nil 141 ⟨.struct [(0, 9), (1, 9), (2, 55)], 3, 48, [.dat (.str ⟨#[]⟩), .dat (.str ⟨#[]⟩), .nili], false⟩ .nil)) 142 ⟨.func, 1, 8, [.nilfn], false⟩ 
  (.node 
  (.node .nil 144 ⟨.func, 1, 8, [.nilfn], false⟩ .nil) 146 ⟨.func, 1, 8, [.nilfn], false⟩ 
  (.node .nil 147 ⟨.arr 32 5, 32, 32, List.replicate 32 (.dat (.int .u8 0)), true⟩ .nil)))) 148 ⟨.arr 64 5, 64, 64, List.replicate 64 (.dat (.int .u8 0)), true⟩ 
  (.node 
  (.node 
  (.node 
  (.node 
  (.node .nil 149 ⟨.func, 1, 8, [.nilfn], false⟩ .nil) 150 ⟨.func, 1, 8, [.nilfn], false⟩ .nil) 151 ⟨.ptr 153, 1, 8, [.nilp], false⟩ 
  (.node .nil 152 ⟨.struct [(0, 9)], 1, 16, [.dat (.str ⟨#[]⟩)], true⟩ .nil)) 153 ⟨.struct [(0, 9)], 1, 16, [.dat (.str ⟨#[]⟩)], true⟩ 
  (.node 
  (.node .nil 154 ⟨.struct [(0, 17), (1, 17), (2, 17), (3, 9)], 4, 40, [.nilp, .nilp, .nilp, .dat (.str ⟨#[]⟩)], false⟩ .nil) 155 ⟨.struct [(0, 17), (1, 17), (2, 17), (3, 9)], 4, 40, [.nilp, .nilp, .nilp, .dat (.str ⟨#[]⟩)], false⟩ 
  (.node .nil 156 ⟨.arr 0 16, 0, 0, [], false⟩ .nil))) 157 ⟨.struct [(0, 156)], 0, 0, [], false⟩ 
  (.node 
  (.node 
  (.node 
  (.node .nil 158 ⟨.struct [(0, 156)], 0, 0, [], false⟩ .nil) 159 ⟨.int .u8, 1, 1, [.dat (.int .u8 0)], true⟩ .nil) 160 ⟨.int .u8, 1, 1, [.dat (.int .u8 0)], true⟩ 
  (.node .nil 161 ⟨.func, 1, 8, [.nilfn], false⟩ .nil)) 162 ⟨.int .i32, 1, 4, [.dat (.int .i32 0)], true⟩ 
  (.node 
  (.node .nil 163 ⟨.int .i32, 1, 4, [.dat (.int .i32 0)], true⟩ .nil) 164 ⟨.struct [(0, 12), (1, 12), (2, 117), (3, 159), (4, 5), (5, 5), (6, 160), (7, 161), (8, 76), (9, 162), (10, 163)], 11, 48, [.dat (.int .u64 0), .dat (.int .u64 0), .dat (.int .u32 0), .dat (.int .u8 0), .dat (.int .u8 0), .dat (.int .u8 0), .dat (.int .u8 0), .nilfn, .nilp, .dat (.int .i32 0), .dat (.int .i32 0)], false⟩ 
  (.node .nil 165 ⟨.struct [(0, 12), (1, 12), (2, 117), (3, 159), (4, 5), (5, 5), (6, 160), (7, 161), (8, 76), (9, 162), (10, 163)], 11, 48, [.dat (.int .u64 0), .dat (.int .u64 0), .dat (.int .u32 0), .dat (.int .u8 0), .dat (.int .u8 0), .dat (.int .u8 0), .dat (.int .u8 0), .nilfn, .nilp, .dat (.int .i32 0), .dat (.int .i32 0)], false⟩ .nil)))))))
def TT : Tab := fun t => TTree.get t
theorem TT_ok : TabOk Go.Proofs.Tryz.prog TT := fun _ _ h => BT.get_all (BT.all_ok (q := tyOk Go.Proofs.Tryz.prog) (show TTree.all (tyOk Go.Proofs.Tryz.prog) = true by kernel_rfl)) h
end Go.Eng
end
