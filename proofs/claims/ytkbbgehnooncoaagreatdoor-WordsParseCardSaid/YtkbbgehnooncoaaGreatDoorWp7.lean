/- The functions by number. -/
import Derived.Test.YtkbbgehnooncoaaGreatDoorWp6
import Derived.Test.YtkbbgehnooncoaaGreatDoorProg
section
namespace Go.Eng
open Go Go.Eng
noncomputable def FTree : BT Func :=
  
  (.node 
  (.node 
  (.node 
  (.node 
  (.node 
  (.node 
  (.node 
  (.node .nil 0 Go.Proofs.Tryz.f0 .nil) 1 Go.Proofs.Tryz.f1 .nil) 2 Go.Proofs.Tryz.f2 
  (.node .nil 3 Go.Proofs.Tryz.f3 .nil)) 4 Go.Proofs.Tryz.f4 
  (.node 
  (.node 
  (.node .nil 5 Go.Proofs.Tryz.f5 .nil) 6 Go.Proofs.Tryz.f6 .nil) 7 Go.Proofs.Tryz.f7 
  (.node .nil 8 Go.Proofs.Tryz.f8 .nil))) 9 Go.Proofs.Tryz.f9 
  (.node 
  (.node 
  (.node 
  (.node .nil 10 Go.Proofs.Tryz.f10 .nil) 11 Go.Proofs.Tryz.f11 .nil) 12 Go.Proofs.Tryz.f12 
  (.node .nil 13 Go.Proofs.Tryz.f13 .nil)) 14 Go.Proofs.Tryz.f14 
  (.node 
  (.node 
  (.node .nil 15 Go.Proofs.Tryz.f15 .nil) 16 Go.Proofs.Tryz.f16 .nil) 17 Go.Proofs.Tryz.f17 
  (.node .nil 18 Go.Proofs.Tryz.f18 .nil)))) 19 Go.Proofs.Tryz.f19 
  (.node 
  (.node 
  (.node 
  (.node 
  (.node .nil 20 Go.Proofs.Tryz.f20 .nil) 21 Go.Proofs.Tryz.f21 .nil) 22 Go.Proofs.Tryz.f22 
  (.node .nil 23 Go.Proofs.Tryz.f23 .nil)) 24 Go.Proofs.Tryz.f24 
  (.node 
  (.node 
  (.node .nil 25 Go.Proofs.Tryz.f25 .nil) 26 Go.Proofs.Tryz.f26 .nil) 27 Go.Proofs.Tryz.f27 
  (.node .nil 28 Go.Proofs.Tryz.f28 .nil))) 29 Go.Proofs.Tryz.f29 
  (.node 
  (.node 
  (.node 
  (.node .nil 30 Go.Proofs.Tryz.f30 .nil) 31 Go.Proofs.Tryz.f31 .nil) 32 Go.Proofs.Tryz.f32 
  (.node .nil 33 Go.Proofs.Tryz.f33 .nil)) 34 Go.Proofs.Tryz.f34 
  (.node 
  (.node 
  (.node .nil 35 Go.Proofs.Tryz.f35 .nil) 36 Go.Proofs.Tryz.f36 .nil) 37 Go.Proofs.Tryz.f37 
  (.node .nil 38 Go.Proofs.Tryz.f38 .nil))))) 39 Go.Proofs.Tryz.f39 
  (.node 
  (.node 
  (.node 
  (.node 
  (.node 
  (.node .nil 40 Go.Proofs.Tryz.f40 .nil) 41 Go.Proofs.Tryz.f41 .nil) 42 Go.Proofs.Tryz.f42 
  (.node .nil 43 Go.Proofs.Tryz.f43 .nil)) 44 Go.Proofs.Tryz.f44 
  (.node 
  (.node 
  (.node .nil 45 Go.Proofs.Tryz.f45 .nil) 46 Go.Proofs.Tryz.f46 .nil) 47 Go.Proofs.Tryz.f47 
  (.node .nil 48 Go.Proofs.Tryz.f48 .nil))) 49 Go.Proofs.Tryz.f49 
  (.node 
  (.node 
  (.node 
  (.node .nil 50 Go.Proofs.Tryz.f50 .nil) 51 Go.Proofs.Tryz.f51 .nil) 52 Go.Proofs.Tryz.f52 
  (.node .nil 53 Go.Proofs.Tryz.f53 .nil)) 54 Go.Proofs.Tryz.f54 
  (.node 
  (.node 
  (.node .nil 55 Go.Proofs.Tryz.f55 .nil) 56 Go.Proofs.Tryz.f56 .nil) 57 Go.Proofs.Tryz.f57 
  (.node .nil 58 Go.Proofs.Tryz.f58 .nil)))) 59 Go.Proofs.Tryz.f59 
  (.node 
  (.node 
  (.node 
  (.node 
  (.node .nil 60 Go.Proofs.Tryz.f60 .nil) 61 Go.Proofs.Tryz.f61 .nil) 62 Go.Proofs.Tryz.f62 
  (.node .nil 63 Go.Proofs.Tryz.f63 .nil)) 64 Go.Proofs.Tryz.f64 
  (.node 
  (.node 
  (.node .nil 65 Go.Proofs.Tryz.f65 .nil) 66 Go.Proofs.Tryz.f66 .nil) 67 Go.Proofs.Tryz.f67 
  (.node .nil 68 Go.Proofs.Tryz.f68 .nil))) 69 Go.Proofs.Tryz.f69 
  (.node 
  (.node 
  (.node 
  (.node .nil 70 Go.Proofs.Tryz.f70 .nil) 71 Go.Proofs.Tryz.f71 .nil) 72 Go.Proofs.Tryz.f72 
  (.node .nil 73 Go.Proofs.Tryz.f73 .nil)) 74 Go.Proofs.Tryz.f74 
  (.node 
  (.node .nil 75 Go.Proofs.Tryz.f75 .nil) 76 Go.Proofs.Tryz.f76 
  (.node .nil 77 Go.Proofs.Tryz.f77 .nil)))))) 78 Go.Proofs.Tryz.f78 
  (.node 
  (.node 
  (.node 
  (.node 
  (.node 
  (.node 
  (.node .nil 79 Go.Proofs.Tryz.f79 .nil) 80 Go.Proofs.Tryz.f80 .nil) 81 Go.Proofs.Tryz.f81 
  (.node .nil 82 Go.Proofs.Tryz.f82 .nil)) 83 Go.Proofs.Tryz.f83 
  (.node 
  (.node 
  (.node .nil 84 Go.Proofs.Tryz.f84 .nil) 85 Go.Proofs.Tryz.f85 .nil) 86 Go.Proofs.Tryz.f86 
  (.node .nil 87 Go.Proofs.Tryz.f87 .nil))) 88 Go.Proofs.Tryz.f88 
  (.node 
  (.node 
  (.node 
  (.node .nil 89 Go.Proofs.Tryz.f89 .nil) 90 Go.Proofs.Tryz.f90 .nil) 91 Go.Proofs.Tryz.f91 
  (.node .nil 92 Go.Proofs.Tryz.f92 .nil)) 93 Go.Proofs.Tryz.f93 
  (.node 
  (.node 
  (.node .nil 94 Go.Proofs.Tryz.f94 .nil) 95 Go.Proofs.Tryz.f95 .nil) 96 Go.Proofs.Tryz.f96 
  (.node .nil 97 Go.Proofs.Tryz.f97 .nil)))) 98 Go.Proofs.Tryz.f98 
  (.node 
  (.node 
  (.node 
  (.node 
  (.node .nil 99 Go.Proofs.Tryz.f99 .nil) 100 Go.Proofs.Tryz.f100 .nil) 101 Go.Proofs.Tryz.f101 
  (.node .nil 102 Go.Proofs.Tryz.f102 .nil)) 103 Go.Proofs.Tryz.f103 
  (.node 
  (.node 
  (.node .nil 104 Go.Proofs.Tryz.f104 .nil) 105 Go.Proofs.Tryz.f105 .nil) 106 Go.Proofs.Tryz.f106 
  (.node .nil 107 Go.Proofs.Tryz.f107 .nil))) 108 Go.Proofs.Tryz.f108 
  (.node 
  (.node 
  (.node 
  (.node .nil 109 Go.Proofs.Tryz.f109 .nil) 110 Go.Proofs.Tryz.f110 .nil) 111 Go.Proofs.Tryz.f111 
  (.node .nil 112 Go.Proofs.Tryz.f112 .nil)) 113 Go.Proofs.Tryz.f113 
  (.node 
  (.node .nil 114 Go.Proofs.Tryz.f114 .nil) 115 Go.Proofs.Tryz.f115 
  (.node .nil 116 Go.Proofs.Tryz.f116 .nil))))) 117 Go.Proofs.Tryz.f117 
  (.node 
  (.node 
  (.node 
  (.node 
  (.node 
  (.node .nil 118 Go.Proofs.Tryz.f118 .nil) 119 Go.Proofs.Tryz.f119 .nil) 120 Go.Proofs.Tryz.f120 
  (.node .nil 121 Go.Proofs.Tryz.f121 .nil)) 122 Go.Proofs.Tryz.f122 
  (.node 
  (.node 
  (.node .nil 123 Go.Proofs.Tryz.f123 .nil) 124 Go.Proofs.Tryz.f124 .nil) 125 Go.Proofs.Tryz.f125 
  (.node .nil 126 Go.Proofs.Tryz.f126 .nil))) 127 Go.Proofs.Tryz.f127 
  (.node 
  (.node 
  (.node 
  (.node .nil 128 Go.Proofs.Tryz.f128 .nil) 129 Go.Proofs.Tryz.f129 .nil) 130 Go.Proofs.Tryz.f130 
  (.node .nil 131 Go.Proofs.Tryz.f131 .nil)) 132 Go.Proofs.Tryz.f132 
  (.node 
  (.node 
  (.node .nil 133 Go.Proofs.Tryz.f133 .nil) 134 Go.Proofs.Tryz.f134 .nil) 135 Go.Proofs.Tryz.f135 
  (.node .nil 136 Go.Proofs.Tryz.f136 .nil)))) 137 Go.Proofs.Tryz.f137 
  (.node 
  (.node 
  (.node 
  (.node 
  (.node .nil 138 Go.Proofs.Tryz.f138 .nil) 139 Go.Proofs.Tryz.f139 .nil) 140 Go.Proofs.Tryz.f140 
  (.node .nil 141 Go.Proofs.Tryz.f141 .nil)) 142 Go.Proofs.Tryz.f142 
  (.node 
  (.node 
  (.node .nil 143 Go.Proofs.Tryz.f143 .nil) 144 Go.Proofs.Tryz.f144 .nil) 145 Go.Proofs.Tryz.f145 
  (.node .nil 146 Go.Proofs.Tryz.f146 .nil))) 147 Go.Proofs.Tryz.f147 
  (.node 
  (.node 
  (.node 
  (.node .nil 148 Go.Proofs.Tryz.f148 .nil) 149 Go.Proofs.Tryz.f149 .nil) 150 Go.Proofs.Tryz.f150 
  (.node .nil 151 Go.Proofs.Tryz.f151 .nil)) 152 Go.Proofs.Tryz.f152 
  (.node 
  (.node .nil 153 Go.Proofs.Tryz.f153 .nil) 154 Go.Proofs.Tryz.f154 
  (.node .nil 155 Go.Proofs.Tryz.f155 .nil)))))))
noncomputable def FT : Nat → Option Func := fun f => FTree.get f
set_option maxRecDepth 100000
theorem FT_all : FTree.AllP (fun f fn => Go.Proofs.Tryz.prog.funcs[f]? = some fn) :=
  ⟨⟨⟨⟨⟨⟨⟨⟨trivial, Go.Proofs.Tryz.func0, trivial⟩, Go.Proofs.Tryz.func1, trivial⟩, Go.Proofs.Tryz.func2, ⟨trivial, Go.Proofs.Tryz.func3, trivial⟩⟩, Go.Proofs.Tryz.func4, ⟨⟨⟨trivial, Go.Proofs.Tryz.func5, trivial⟩, Go.Proofs.Tryz.func6, trivial⟩, Go.Proofs.Tryz.func7, ⟨trivial, Go.Proofs.Tryz.func8, trivial⟩⟩⟩, Go.Proofs.Tryz.func9, ⟨⟨⟨⟨trivial, Go.Proofs.Tryz.func10, trivial⟩, Go.Proofs.Tryz.func11, trivial⟩, Go.Proofs.Tryz.func12, ⟨trivial, Go.Proofs.Tryz.func13, trivial⟩⟩, Go.Proofs.Tryz.func14, ⟨⟨⟨trivial, Go.Proofs.Tryz.func15, trivial⟩, Go.Proofs.Tryz.func16, trivial⟩, Go.Proofs.Tryz.func17, ⟨trivial, Go.Proofs.Tryz.func18, trivial⟩⟩⟩⟩, Go.Proofs.Tryz.func19, ⟨⟨⟨⟨⟨trivial, Go.Proofs.Tryz.func20, trivial⟩, Go.Proofs.Tryz.func21, trivial⟩, Go.Proofs.Tryz.func22, ⟨trivial, Go.Proofs.Tryz.func23, trivial⟩⟩, Go.Proofs.Tryz.func24, ⟨⟨⟨trivial, Go.Proofs.Tryz.func25, trivial⟩, Go.Proofs.Tryz.func26, trivial⟩, Go.Proofs.Tryz.func27, ⟨trivial, Go.Proofs.Tryz.func28, trivial⟩⟩⟩, Go.Proofs.Tryz.func29, ⟨⟨⟨⟨trivial, Go.Proofs.Tryz.func30, trivial⟩, Go.Proofs.Tryz.func31, trivial⟩, Go.Proofs.Tryz.func32, ⟨trivial, Go.Proofs.Tryz.func33, trivial⟩⟩, Go.Proofs.Tryz.func34, ⟨⟨⟨trivial, Go.Proofs.Tryz.func35, trivial⟩, Go.Proofs.Tryz.func36, trivial⟩, Go.Proofs.Tryz.func37, ⟨trivial, Go.Proofs.Tryz.func38, trivial⟩⟩⟩⟩⟩, Go.Proofs.Tryz.func39, ⟨⟨⟨⟨⟨⟨trivial, Go.Proofs.Tryz.func40, trivial⟩, Go.Proofs.Tryz.func41, trivial⟩, Go.Proofs.Tryz.func42, ⟨trivial, Go.Proofs.Tryz.func43, trivial⟩⟩, Go.Proofs.Tryz.func44, ⟨⟨⟨trivial, Go.Proofs.Tryz.func45, trivial⟩, Go.Proofs.Tryz.func46, trivial⟩, Go.Proofs.Tryz.func47, ⟨trivial, Go.Proofs.Tryz.func48, trivial⟩⟩⟩, Go.Proofs.Tryz.func49, ⟨⟨⟨⟨trivial, Go.Proofs.Tryz.func50, trivial⟩, Go.Proofs.Tryz.func51, trivial⟩, Go.Proofs.Tryz.func52, ⟨trivial, Go.Proofs.Tryz.func53, trivial⟩⟩, Go.Proofs.Tryz.func54, ⟨⟨⟨trivial, Go.Proofs.Tryz.func55, trivial⟩, Go.Proofs.Tryz.func56, trivial⟩, Go.Proofs.Tryz.func57, ⟨trivial, Go.Proofs.Tryz.func58, trivial⟩⟩⟩⟩, Go.Proofs.Tryz.func59, ⟨⟨⟨⟨⟨trivial, Go.Proofs.Tryz.func60, trivial⟩, Go.Proofs.Tryz.func61, trivial⟩, Go.Proofs.Tryz.func62, ⟨trivial, Go.Proofs.Tryz.func63, trivial⟩⟩, Go.Proofs.Tryz.func64, ⟨⟨⟨trivial, Go.Proofs.Tryz.func65, trivial⟩, Go.Proofs.Tryz.func66, trivial⟩, Go.Proofs.Tryz.func67, ⟨trivial, Go.Proofs.Tryz.func68, trivial⟩⟩⟩, Go.Proofs.Tryz.func69, ⟨⟨⟨⟨trivial, Go.Proofs.Tryz.func70, trivial⟩, Go.Proofs.Tryz.func71, trivial⟩, Go.Proofs.Tryz.func72, ⟨trivial, Go.Proofs.Tryz.func73, trivial⟩⟩, Go.Proofs.Tryz.func74, ⟨⟨trivial, Go.Proofs.Tryz.func75, trivial⟩, Go.Proofs.Tryz.func76, ⟨trivial, Go.Proofs.Tryz.func77, trivial⟩⟩⟩⟩⟩⟩, Go.Proofs.Tryz.func78, ⟨⟨⟨⟨⟨⟨⟨trivial, Go.Proofs.Tryz.func79, trivial⟩, Go.Proofs.Tryz.func80, trivial⟩, Go.Proofs.Tryz.func81, ⟨trivial, Go.Proofs.Tryz.func82, trivial⟩⟩, Go.Proofs.Tryz.func83, ⟨⟨⟨trivial, Go.Proofs.Tryz.func84, trivial⟩, Go.Proofs.Tryz.func85, trivial⟩, Go.Proofs.Tryz.func86, ⟨trivial, Go.Proofs.Tryz.func87, trivial⟩⟩⟩, Go.Proofs.Tryz.func88, ⟨⟨⟨⟨trivial, Go.Proofs.Tryz.func89, trivial⟩, Go.Proofs.Tryz.func90, trivial⟩, Go.Proofs.Tryz.func91, ⟨trivial, Go.Proofs.Tryz.func92, trivial⟩⟩, Go.Proofs.Tryz.func93, ⟨⟨⟨trivial, Go.Proofs.Tryz.func94, trivial⟩, Go.Proofs.Tryz.func95, trivial⟩, Go.Proofs.Tryz.func96, ⟨trivial, Go.Proofs.Tryz.func97, trivial⟩⟩⟩⟩, Go.Proofs.Tryz.func98, ⟨⟨⟨⟨⟨trivial, Go.Proofs.Tryz.func99, trivial⟩, Go.Proofs.Tryz.func100, trivial⟩, Go.Proofs.Tryz.func101, ⟨trivial, Go.Proofs.Tryz.func102, trivial⟩⟩, Go.Proofs.Tryz.func103, ⟨⟨⟨trivial, Go.Proofs.Tryz.func104, trivial⟩, Go.Proofs.Tryz.func105, trivial⟩, Go.Proofs.Tryz.func106, ⟨trivial, Go.Proofs.Tryz.func107, trivial⟩⟩⟩, Go.Proofs.Tryz.func108, ⟨⟨⟨⟨trivial, Go.Proofs.Tryz.func109, trivial⟩, Go.Proofs.Tryz.func110, trivial⟩, Go.Proofs.Tryz.func111, ⟨trivial, Go.Proofs.Tryz.func112, trivial⟩⟩, Go.Proofs.Tryz.func113, ⟨⟨trivial, Go.Proofs.Tryz.func114, trivial⟩, Go.Proofs.Tryz.func115, ⟨trivial, Go.Proofs.Tryz.func116, trivial⟩⟩⟩⟩⟩, Go.Proofs.Tryz.func117, ⟨⟨⟨⟨⟨⟨trivial, Go.Proofs.Tryz.func118, trivial⟩, Go.Proofs.Tryz.func119, trivial⟩, Go.Proofs.Tryz.func120, ⟨trivial, Go.Proofs.Tryz.func121, trivial⟩⟩, Go.Proofs.Tryz.func122, ⟨⟨⟨trivial, Go.Proofs.Tryz.func123, trivial⟩, Go.Proofs.Tryz.func124, trivial⟩, Go.Proofs.Tryz.func125, ⟨trivial, Go.Proofs.Tryz.func126, trivial⟩⟩⟩, Go.Proofs.Tryz.func127, ⟨⟨⟨⟨trivial, Go.Proofs.Tryz.func128, trivial⟩, Go.Proofs.Tryz.func129, trivial⟩, Go.Proofs.Tryz.func130, ⟨trivial, Go.Proofs.Tryz.func131, trivial⟩⟩, Go.Proofs.Tryz.func132, ⟨⟨⟨trivial, Go.Proofs.Tryz.func133, trivial⟩, Go.Proofs.Tryz.func134, trivial⟩, Go.Proofs.Tryz.func135, ⟨trivial, Go.Proofs.Tryz.func136, trivial⟩⟩⟩⟩, Go.Proofs.Tryz.func137, ⟨⟨⟨⟨⟨trivial, Go.Proofs.Tryz.func138, trivial⟩, Go.Proofs.Tryz.func139, trivial⟩, Go.Proofs.Tryz.func140, ⟨trivial, Go.Proofs.Tryz.func141, trivial⟩⟩, Go.Proofs.Tryz.func142, ⟨⟨⟨trivial, Go.Proofs.Tryz.func143, trivial⟩, Go.Proofs.Tryz.func144, trivial⟩, Go.Proofs.Tryz.func145, ⟨trivial, Go.Proofs.Tryz.func146, trivial⟩⟩⟩, Go.Proofs.Tryz.func147, ⟨⟨⟨⟨trivial, Go.Proofs.Tryz.func148, trivial⟩, Go.Proofs.Tryz.func149, trivial⟩, Go.Proofs.Tryz.func150, ⟨trivial, Go.Proofs.Tryz.func151, trivial⟩⟩, Go.Proofs.Tryz.func152, ⟨⟨trivial, Go.Proofs.Tryz.func153, trivial⟩, Go.Proofs.Tryz.func154, ⟨trivial, Go.Proofs.Tryz.func155, trivial⟩⟩⟩⟩⟩⟩⟩
theorem FT_ok {f : Nat} {fn : Func} (h : FT f = some fn) : Go.Proofs.Tryz.prog.funcs[f]? = some fn := BT.get_all FT_all h
end Go.Eng
end
