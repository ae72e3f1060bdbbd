/- The functions by number. -/
import Derived.Test.YtnkiegafaiebiaaDoorSp6
import Derived.Test.YtnkiegafaiebiaaDoorProg
section
namespace Go.Eng
open Go Go.Eng
noncomputable def FTree : BT Func :=
  
  (.node 
  (.node 
  (.node 
  (.node 
  (.node 
  (.node 
  (.node 
  (.node .nil 0 Go.Proofs.Tryd.f0 .nil) 1 Go.Proofs.Tryd.f1 .nil) 2 Go.Proofs.Tryd.f2 
  (.node .nil 3 Go.Proofs.Tryd.f3 .nil)) 4 Go.Proofs.Tryd.f4 
  (.node 
  (.node .nil 5 Go.Proofs.Tryd.f5 .nil) 6 Go.Proofs.Tryd.f6 
  (.node .nil 7 Go.Proofs.Tryd.f7 .nil))) 8 Go.Proofs.Tryd.f8 
  (.node 
  (.node 
  (.node .nil 9 Go.Proofs.Tryd.f9 .nil) 10 Go.Proofs.Tryd.f10 
  (.node .nil 11 Go.Proofs.Tryd.f11 .nil)) 12 Go.Proofs.Tryd.f12 
  (.node 
  (.node .nil 13 Go.Proofs.Tryd.f13 .nil) 14 Go.Proofs.Tryd.f14 
  (.node .nil 15 Go.Proofs.Tryd.f15 .nil)))) 16 Go.Proofs.Tryd.f16 
  (.node 
  (.node 
  (.node 
  (.node .nil 17 Go.Proofs.Tryd.f17 .nil) 18 Go.Proofs.Tryd.f18 
  (.node .nil 19 Go.Proofs.Tryd.f19 .nil)) 20 Go.Proofs.Tryd.f20 
  (.node 
  (.node .nil 21 Go.Proofs.Tryd.f21 .nil) 22 Go.Proofs.Tryd.f22 
  (.node .nil 23 Go.Proofs.Tryd.f23 .nil))) 24 Go.Proofs.Tryd.f24 
  (.node 
  (.node 
  (.node .nil 25 Go.Proofs.Tryd.f25 .nil) 26 Go.Proofs.Tryd.f26 
  (.node .nil 27 Go.Proofs.Tryd.f27 .nil)) 28 Go.Proofs.Tryd.f28 
  (.node 
  (.node .nil 29 Go.Proofs.Tryd.f29 .nil) 30 Go.Proofs.Tryd.f30 
  (.node .nil 31 Go.Proofs.Tryd.f31 .nil))))) 32 Go.Proofs.Tryd.f32 
  (.node 
  (.node 
  (.node 
  (.node 
  (.node 
  (.node .nil 33 Go.Proofs.Tryd.f33 .nil) 34 Go.Proofs.Tryd.f34 .nil) 35 Go.Proofs.Tryd.f35 
  (.node .nil 36 Go.Proofs.Tryd.f36 .nil)) 37 Go.Proofs.Tryd.f37 
  (.node 
  (.node .nil 38 Go.Proofs.Tryd.f38 .nil) 39 Go.Proofs.Tryd.f39 
  (.node .nil 40 Go.Proofs.Tryd.f40 .nil))) 41 Go.Proofs.Tryd.f41 
  (.node 
  (.node 
  (.node .nil 42 Go.Proofs.Tryd.f42 .nil) 43 Go.Proofs.Tryd.f43 
  (.node .nil 44 Go.Proofs.Tryd.f44 .nil)) 45 Go.Proofs.Tryd.f45 
  (.node 
  (.node .nil 46 Go.Proofs.Tryd.f46 .nil) 47 Go.Proofs.Tryd.f47 
  (.node .nil 48 Go.Proofs.Tryd.f48 .nil)))) 49 Go.Proofs.Tryd.f49 
  (.node 
  (.node 
  (.node 
  (.node .nil 50 Go.Proofs.Tryd.f50 .nil) 51 Go.Proofs.Tryd.f51 
  (.node .nil 52 Go.Proofs.Tryd.f52 .nil)) 53 Go.Proofs.Tryd.f53 
  (.node 
  (.node .nil 54 Go.Proofs.Tryd.f54 .nil) 55 Go.Proofs.Tryd.f55 
  (.node .nil 56 Go.Proofs.Tryd.f56 .nil))) 57 Go.Proofs.Tryd.f57 
  (.node 
  (.node 
  (.node .nil 58 Go.Proofs.Tryd.f58 .nil) 59 Go.Proofs.Tryd.f59 
  (.node .nil 60 Go.Proofs.Tryd.f60 .nil)) 61 Go.Proofs.Tryd.f61 
  (.node 
  (.node .nil 62 Go.Proofs.Tryd.f62 .nil) 63 Go.Proofs.Tryd.f63 
  (.node .nil 64 Go.Proofs.Tryd.f64 .nil)))))) 65 Go.Proofs.Tryd.f65 
  (.node 
  (.node 
  (.node 
  (.node 
  (.node 
  (.node 
  (.node .nil 66 Go.Proofs.Tryd.f66 .nil) 67 Go.Proofs.Tryd.f67 .nil) 68 Go.Proofs.Tryd.f68 
  (.node .nil 69 Go.Proofs.Tryd.f69 .nil)) 70 Go.Proofs.Tryd.f70 
  (.node 
  (.node .nil 71 Go.Proofs.Tryd.f71 .nil) 72 Go.Proofs.Tryd.f72 
  (.node .nil 73 Go.Proofs.Tryd.f73 .nil))) 74 Go.Proofs.Tryd.f74 
  (.node 
  (.node 
  (.node .nil 75 Go.Proofs.Tryd.f75 .nil) 76 Go.Proofs.Tryd.f76 
  (.node .nil 77 Go.Proofs.Tryd.f77 .nil)) 78 Go.Proofs.Tryd.f78 
  (.node 
  (.node .nil 79 Go.Proofs.Tryd.f79 .nil) 80 Go.Proofs.Tryd.f80 
  (.node .nil 81 Go.Proofs.Tryd.f81 .nil)))) 82 Go.Proofs.Tryd.f82 
  (.node 
  (.node 
  (.node 
  (.node .nil 83 Go.Proofs.Tryd.f83 .nil) 84 Go.Proofs.Tryd.f84 
  (.node .nil 85 Go.Proofs.Tryd.f85 .nil)) 86 Go.Proofs.Tryd.f86 
  (.node 
  (.node .nil 87 Go.Proofs.Tryd.f87 .nil) 88 Go.Proofs.Tryd.f88 
  (.node .nil 89 Go.Proofs.Tryd.f89 .nil))) 90 Go.Proofs.Tryd.f90 
  (.node 
  (.node 
  (.node .nil 91 Go.Proofs.Tryd.f91 .nil) 92 Go.Proofs.Tryd.f92 
  (.node .nil 93 Go.Proofs.Tryd.f93 .nil)) 94 Go.Proofs.Tryd.f94 
  (.node 
  (.node .nil 95 Go.Proofs.Tryd.f95 .nil) 96 Go.Proofs.Tryd.f96 
  (.node .nil 97 Go.Proofs.Tryd.f97 .nil))))) 98 Go.Proofs.Tryd.f98 
  (.node 
  (.node 
  (.node 
  (.node 
  (.node .nil 99 Go.Proofs.Tryd.f99 .nil) 100 Go.Proofs.Tryd.f100 
  (.node .nil 101 Go.Proofs.Tryd.f101 .nil)) 102 Go.Proofs.Tryd.f102 
  (.node 
  (.node .nil 103 Go.Proofs.Tryd.f103 .nil) 104 Go.Proofs.Tryd.f104 
  (.node .nil 105 Go.Proofs.Tryd.f105 .nil))) 106 Go.Proofs.Tryd.f106 
  (.node 
  (.node 
  (.node .nil 107 Go.Proofs.Tryd.f107 .nil) 108 Go.Proofs.Tryd.f108 
  (.node .nil 109 Go.Proofs.Tryd.f109 .nil)) 110 Go.Proofs.Tryd.f110 
  (.node 
  (.node .nil 111 Go.Proofs.Tryd.f111 .nil) 112 Go.Proofs.Tryd.f112 
  (.node .nil 113 Go.Proofs.Tryd.f113 .nil)))) 114 Go.Proofs.Tryd.f114 
  (.node 
  (.node 
  (.node 
  (.node .nil 115 Go.Proofs.Tryd.f115 .nil) 116 Go.Proofs.Tryd.f116 
  (.node .nil 117 Go.Proofs.Tryd.f117 .nil)) 118 Go.Proofs.Tryd.f118 
  (.node 
  (.node .nil 119 Go.Proofs.Tryd.f119 .nil) 120 Go.Proofs.Tryd.f120 
  (.node .nil 121 Go.Proofs.Tryd.f121 .nil))) 122 Go.Proofs.Tryd.f122 
  (.node 
  (.node 
  (.node .nil 123 Go.Proofs.Tryd.f123 .nil) 124 Go.Proofs.Tryd.f124 
  (.node .nil 125 Go.Proofs.Tryd.f125 .nil)) 126 Go.Proofs.Tryd.f126 
  (.node 
  (.node .nil 127 Go.Proofs.Tryd.f127 .nil) 128 Go.Proofs.Tryd.f128 
  (.node .nil 129 Go.Proofs.Tryd.f129 .nil)))))))
noncomputable def FT : Nat → Option Func := fun f => FTree.get f
set_option maxRecDepth 100000
theorem FT_all : FTree.AllP (fun f fn => Go.Proofs.Tryd.prog.funcs[f]? = some fn) :=
  ⟨⟨⟨⟨⟨⟨⟨⟨trivial, Go.Proofs.Tryd.func0, trivial⟩, Go.Proofs.Tryd.func1, trivial⟩, Go.Proofs.Tryd.func2, ⟨trivial, Go.Proofs.Tryd.func3, trivial⟩⟩, Go.Proofs.Tryd.func4, ⟨⟨trivial, Go.Proofs.Tryd.func5, trivial⟩, Go.Proofs.Tryd.func6, ⟨trivial, Go.Proofs.Tryd.func7, trivial⟩⟩⟩, Go.Proofs.Tryd.func8, ⟨⟨⟨trivial, Go.Proofs.Tryd.func9, trivial⟩, Go.Proofs.Tryd.func10, ⟨trivial, Go.Proofs.Tryd.func11, trivial⟩⟩, Go.Proofs.Tryd.func12, ⟨⟨trivial, Go.Proofs.Tryd.func13, trivial⟩, Go.Proofs.Tryd.func14, ⟨trivial, Go.Proofs.Tryd.func15, trivial⟩⟩⟩⟩, Go.Proofs.Tryd.func16, ⟨⟨⟨⟨trivial, Go.Proofs.Tryd.func17, trivial⟩, Go.Proofs.Tryd.func18, ⟨trivial, Go.Proofs.Tryd.func19, trivial⟩⟩, Go.Proofs.Tryd.func20, ⟨⟨trivial, Go.Proofs.Tryd.func21, trivial⟩, Go.Proofs.Tryd.func22, ⟨trivial, Go.Proofs.Tryd.func23, trivial⟩⟩⟩, Go.Proofs.Tryd.func24, ⟨⟨⟨trivial, Go.Proofs.Tryd.func25, trivial⟩, Go.Proofs.Tryd.func26, ⟨trivial, Go.Proofs.Tryd.func27, trivial⟩⟩, Go.Proofs.Tryd.func28, ⟨⟨trivial, Go.Proofs.Tryd.func29, trivial⟩, Go.Proofs.Tryd.func30, ⟨trivial, Go.Proofs.Tryd.func31, trivial⟩⟩⟩⟩⟩, Go.Proofs.Tryd.func32, ⟨⟨⟨⟨⟨⟨trivial, Go.Proofs.Tryd.func33, trivial⟩, Go.Proofs.Tryd.func34, trivial⟩, Go.Proofs.Tryd.func35, ⟨trivial, Go.Proofs.Tryd.func36, trivial⟩⟩, Go.Proofs.Tryd.func37, ⟨⟨trivial, Go.Proofs.Tryd.func38, trivial⟩, Go.Proofs.Tryd.func39, ⟨trivial, Go.Proofs.Tryd.func40, trivial⟩⟩⟩, Go.Proofs.Tryd.func41, ⟨⟨⟨trivial, Go.Proofs.Tryd.func42, trivial⟩, Go.Proofs.Tryd.func43, ⟨trivial, Go.Proofs.Tryd.func44, trivial⟩⟩, Go.Proofs.Tryd.func45, ⟨⟨trivial, Go.Proofs.Tryd.func46, trivial⟩, Go.Proofs.Tryd.func47, ⟨trivial, Go.Proofs.Tryd.func48, trivial⟩⟩⟩⟩, Go.Proofs.Tryd.func49, ⟨⟨⟨⟨trivial, Go.Proofs.Tryd.func50, trivial⟩, Go.Proofs.Tryd.func51, ⟨trivial, Go.Proofs.Tryd.func52, trivial⟩⟩, Go.Proofs.Tryd.func53, ⟨⟨trivial, Go.Proofs.Tryd.func54, trivial⟩, Go.Proofs.Tryd.func55, ⟨trivial, Go.Proofs.Tryd.func56, trivial⟩⟩⟩, Go.Proofs.Tryd.func57, ⟨⟨⟨trivial, Go.Proofs.Tryd.func58, trivial⟩, Go.Proofs.Tryd.func59, ⟨trivial, Go.Proofs.Tryd.func60, trivial⟩⟩, Go.Proofs.Tryd.func61, ⟨⟨trivial, Go.Proofs.Tryd.func62, trivial⟩, Go.Proofs.Tryd.func63, ⟨trivial, Go.Proofs.Tryd.func64, trivial⟩⟩⟩⟩⟩⟩, Go.Proofs.Tryd.func65, ⟨⟨⟨⟨⟨⟨⟨trivial, Go.Proofs.Tryd.func66, trivial⟩, Go.Proofs.Tryd.func67, trivial⟩, Go.Proofs.Tryd.func68, ⟨trivial, Go.Proofs.Tryd.func69, trivial⟩⟩, Go.Proofs.Tryd.func70, ⟨⟨trivial, Go.Proofs.Tryd.func71, trivial⟩, Go.Proofs.Tryd.func72, ⟨trivial, Go.Proofs.Tryd.func73, trivial⟩⟩⟩, Go.Proofs.Tryd.func74, ⟨⟨⟨trivial, Go.Proofs.Tryd.func75, trivial⟩, Go.Proofs.Tryd.func76, ⟨trivial, Go.Proofs.Tryd.func77, trivial⟩⟩, Go.Proofs.Tryd.func78, ⟨⟨trivial, Go.Proofs.Tryd.func79, trivial⟩, Go.Proofs.Tryd.func80, ⟨trivial, Go.Proofs.Tryd.func81, trivial⟩⟩⟩⟩, Go.Proofs.Tryd.func82, ⟨⟨⟨⟨trivial, Go.Proofs.Tryd.func83, trivial⟩, Go.Proofs.Tryd.func84, ⟨trivial, Go.Proofs.Tryd.func85, trivial⟩⟩, Go.Proofs.Tryd.func86, ⟨⟨trivial, Go.Proofs.Tryd.func87, trivial⟩, Go.Proofs.Tryd.func88, ⟨trivial, Go.Proofs.Tryd.func89, trivial⟩⟩⟩, Go.Proofs.Tryd.func90, ⟨⟨⟨trivial, Go.Proofs.Tryd.func91, trivial⟩, Go.Proofs.Tryd.func92, ⟨trivial, Go.Proofs.Tryd.func93, trivial⟩⟩, Go.Proofs.Tryd.func94, ⟨⟨trivial, Go.Proofs.Tryd.func95, trivial⟩, Go.Proofs.Tryd.func96, ⟨trivial, Go.Proofs.Tryd.func97, trivial⟩⟩⟩⟩⟩, Go.Proofs.Tryd.func98, ⟨⟨⟨⟨⟨trivial, Go.Proofs.Tryd.func99, trivial⟩, Go.Proofs.Tryd.func100, ⟨trivial, Go.Proofs.Tryd.func101, trivial⟩⟩, Go.Proofs.Tryd.func102, ⟨⟨trivial, Go.Proofs.Tryd.func103, trivial⟩, Go.Proofs.Tryd.func104, ⟨trivial, Go.Proofs.Tryd.func105, trivial⟩⟩⟩, Go.Proofs.Tryd.func106, ⟨⟨⟨trivial, Go.Proofs.Tryd.func107, trivial⟩, Go.Proofs.Tryd.func108, ⟨trivial, Go.Proofs.Tryd.func109, trivial⟩⟩, Go.Proofs.Tryd.func110, ⟨⟨trivial, Go.Proofs.Tryd.func111, trivial⟩, Go.Proofs.Tryd.func112, ⟨trivial, Go.Proofs.Tryd.func113, trivial⟩⟩⟩⟩, Go.Proofs.Tryd.func114, ⟨⟨⟨⟨trivial, Go.Proofs.Tryd.func115, trivial⟩, Go.Proofs.Tryd.func116, ⟨trivial, Go.Proofs.Tryd.func117, trivial⟩⟩, Go.Proofs.Tryd.func118, ⟨⟨trivial, Go.Proofs.Tryd.func119, trivial⟩, Go.Proofs.Tryd.func120, ⟨trivial, Go.Proofs.Tryd.func121, trivial⟩⟩⟩, Go.Proofs.Tryd.func122, ⟨⟨⟨trivial, Go.Proofs.Tryd.func123, trivial⟩, Go.Proofs.Tryd.func124, ⟨trivial, Go.Proofs.Tryd.func125, trivial⟩⟩, Go.Proofs.Tryd.func126, ⟨⟨trivial, Go.Proofs.Tryd.func127, trivial⟩, Go.Proofs.Tryd.func128, ⟨trivial, Go.Proofs.Tryd.func129, trivial⟩⟩⟩⟩⟩⟩⟩
theorem FT_ok {f : Nat} {fn : Func} (h : FT f = some fn) : Go.Proofs.Tryd.prog.funcs[f]? = some fn := BT.get_all FT_all h
end Go.Eng
end
