/- The functions by number. -/
import Derived.Test.YtkconbpjimjbnabDf5
import Derived.Test.YtkconbpjimjbnabProg
section
namespace Go.Eng
open Go Go.Eng
noncomputable def FTree : BT Func :=
  
  (.node 
  (.node 
  (.node 
  (.node 
  (.node 
  (.node 
  (.node .nil 0 Go.Proofs.Try.f0 .nil) 1 Go.Proofs.Try.f1 
  (.node .nil 2 Go.Proofs.Try.f2 .nil)) 3 Go.Proofs.Try.f3 
  (.node 
  (.node .nil 4 Go.Proofs.Try.f4 .nil) 5 Go.Proofs.Try.f5 
  (.node .nil 6 Go.Proofs.Try.f6 .nil))) 7 Go.Proofs.Try.f7 
  (.node 
  (.node 
  (.node .nil 8 Go.Proofs.Try.f8 .nil) 9 Go.Proofs.Try.f9 
  (.node .nil 10 Go.Proofs.Try.f10 .nil)) 11 Go.Proofs.Try.f11 
  (.node 
  (.node .nil 12 Go.Proofs.Try.f12 .nil) 13 Go.Proofs.Try.f13 
  (.node .nil 14 Go.Proofs.Try.f14 .nil)))) 15 Go.Proofs.Try.f15 
  (.node 
  (.node 
  (.node 
  (.node .nil 16 Go.Proofs.Try.f16 .nil) 17 Go.Proofs.Try.f17 
  (.node .nil 18 Go.Proofs.Try.f18 .nil)) 19 Go.Proofs.Try.f19 
  (.node 
  (.node .nil 20 Go.Proofs.Try.f20 .nil) 21 Go.Proofs.Try.f21 
  (.node .nil 22 Go.Proofs.Try.f22 .nil))) 23 Go.Proofs.Try.f23 
  (.node 
  (.node 
  (.node .nil 24 Go.Proofs.Try.f24 .nil) 25 Go.Proofs.Try.f25 
  (.node .nil 26 Go.Proofs.Try.f26 .nil)) 27 Go.Proofs.Try.f27 
  (.node 
  (.node .nil 28 Go.Proofs.Try.f28 .nil) 29 Go.Proofs.Try.f29 
  (.node .nil 30 Go.Proofs.Try.f30 .nil))))) 31 Go.Proofs.Try.f31 
  (.node 
  (.node 
  (.node 
  (.node 
  (.node .nil 32 Go.Proofs.Try.f32 .nil) 33 Go.Proofs.Try.f33 
  (.node .nil 34 Go.Proofs.Try.f34 .nil)) 35 Go.Proofs.Try.f35 
  (.node 
  (.node .nil 36 Go.Proofs.Try.f36 .nil) 37 Go.Proofs.Try.f37 
  (.node .nil 38 Go.Proofs.Try.f38 .nil))) 39 Go.Proofs.Try.f39 
  (.node 
  (.node 
  (.node .nil 40 Go.Proofs.Try.f40 .nil) 41 Go.Proofs.Try.f41 
  (.node .nil 42 Go.Proofs.Try.f42 .nil)) 43 Go.Proofs.Try.f43 
  (.node 
  (.node .nil 44 Go.Proofs.Try.f44 .nil) 45 Go.Proofs.Try.f45 
  (.node .nil 46 Go.Proofs.Try.f46 .nil)))) 47 Go.Proofs.Try.f47 
  (.node 
  (.node 
  (.node 
  (.node .nil 48 Go.Proofs.Try.f48 .nil) 49 Go.Proofs.Try.f49 
  (.node .nil 50 Go.Proofs.Try.f50 .nil)) 51 Go.Proofs.Try.f51 
  (.node 
  (.node .nil 52 Go.Proofs.Try.f52 .nil) 53 Go.Proofs.Try.f53 
  (.node .nil 54 Go.Proofs.Try.f54 .nil))) 55 Go.Proofs.Try.f55 
  (.node 
  (.node 
  (.node .nil 56 Go.Proofs.Try.f56 .nil) 57 Go.Proofs.Try.f57 
  (.node .nil 58 Go.Proofs.Try.f58 .nil)) 59 Go.Proofs.Try.f59 
  (.node 
  (.node .nil 60 Go.Proofs.Try.f60 .nil) 61 Go.Proofs.Try.f61 .nil))))) 62 Go.Proofs.Try.f62 
  (.node 
  (.node 
  (.node 
  (.node 
  (.node 
  (.node .nil 63 Go.Proofs.Try.f63 .nil) 64 Go.Proofs.Try.f64 
  (.node .nil 65 Go.Proofs.Try.f65 .nil)) 66 Go.Proofs.Try.f66 
  (.node 
  (.node .nil 67 Go.Proofs.Try.f67 .nil) 68 Go.Proofs.Try.f68 
  (.node .nil 69 Go.Proofs.Try.f69 .nil))) 70 Go.Proofs.Try.f70 
  (.node 
  (.node 
  (.node .nil 71 Go.Proofs.Try.f71 .nil) 72 Go.Proofs.Try.f72 
  (.node .nil 73 Go.Proofs.Try.f73 .nil)) 74 Go.Proofs.Try.f74 
  (.node 
  (.node .nil 75 Go.Proofs.Try.f75 .nil) 76 Go.Proofs.Try.f76 
  (.node .nil 77 Go.Proofs.Try.f77 .nil)))) 78 Go.Proofs.Try.f78 
  (.node 
  (.node 
  (.node 
  (.node .nil 79 Go.Proofs.Try.f79 .nil) 80 Go.Proofs.Try.f80 
  (.node .nil 81 Go.Proofs.Try.f81 .nil)) 82 Go.Proofs.Try.f82 
  (.node 
  (.node .nil 83 Go.Proofs.Try.f83 .nil) 84 Go.Proofs.Try.f84 
  (.node .nil 85 Go.Proofs.Try.f85 .nil))) 86 Go.Proofs.Try.f86 
  (.node 
  (.node 
  (.node .nil 87 Go.Proofs.Try.f87 .nil) 88 Go.Proofs.Try.f88 
  (.node .nil 89 Go.Proofs.Try.f89 .nil)) 90 Go.Proofs.Try.f90 
  (.node 
  (.node .nil 91 Go.Proofs.Try.f91 .nil) 92 Go.Proofs.Try.f92 
  (.node .nil 93 Go.Proofs.Try.f93 .nil))))) 94 Go.Proofs.Try.f94 
  (.node 
  (.node 
  (.node 
  (.node 
  (.node .nil 95 Go.Proofs.Try.f95 .nil) 96 Go.Proofs.Try.f96 
  (.node .nil 97 Go.Proofs.Try.f97 .nil)) 98 Go.Proofs.Try.f98 
  (.node 
  (.node .nil 99 Go.Proofs.Try.f99 .nil) 100 Go.Proofs.Try.f100 
  (.node .nil 101 Go.Proofs.Try.f101 .nil))) 102 Go.Proofs.Try.f102 
  (.node 
  (.node 
  (.node .nil 103 Go.Proofs.Try.f103 .nil) 104 Go.Proofs.Try.f104 
  (.node .nil 105 Go.Proofs.Try.f105 .nil)) 106 Go.Proofs.Try.f106 
  (.node 
  (.node .nil 107 Go.Proofs.Try.f107 .nil) 108 Go.Proofs.Try.f108 
  (.node .nil 109 Go.Proofs.Try.f109 .nil)))) 110 Go.Proofs.Try.f110 
  (.node 
  (.node 
  (.node 
  (.node .nil 111 Go.Proofs.Try.f111 .nil) 112 Go.Proofs.Try.f112 
  (.node .nil 113 Go.Proofs.Try.f113 .nil)) 114 Go.Proofs.Try.f114 
  (.node 
  (.node .nil 115 Go.Proofs.Try.f115 .nil) 116 Go.Proofs.Try.f116 
  (.node .nil 117 Go.Proofs.Try.f117 .nil))) 118 Go.Proofs.Try.f118 
  (.node 
  (.node 
  (.node .nil 119 Go.Proofs.Try.f119 .nil) 120 Go.Proofs.Try.f120 
  (.node .nil 121 Go.Proofs.Try.f121 .nil)) 122 Go.Proofs.Try.f122 
  (.node 
  (.node .nil 123 Go.Proofs.Try.f123 .nil) 124 Go.Proofs.Try.f124 .nil))))))
noncomputable def FT : Nat → Option Func := fun f => FTree.get f
set_option maxRecDepth 100000
theorem FT_all : FTree.AllP (fun f fn => Go.Proofs.Try.prog.funcs[f]? = some fn) :=
  ⟨⟨⟨⟨⟨⟨⟨trivial, Go.Proofs.Try.func0, trivial⟩, Go.Proofs.Try.func1, ⟨trivial, Go.Proofs.Try.func2, trivial⟩⟩, Go.Proofs.Try.func3, ⟨⟨trivial, Go.Proofs.Try.func4, trivial⟩, Go.Proofs.Try.func5, ⟨trivial, Go.Proofs.Try.func6, trivial⟩⟩⟩, Go.Proofs.Try.func7, ⟨⟨⟨trivial, Go.Proofs.Try.func8, trivial⟩, Go.Proofs.Try.func9, ⟨trivial, Go.Proofs.Try.func10, trivial⟩⟩, Go.Proofs.Try.func11, ⟨⟨trivial, Go.Proofs.Try.func12, trivial⟩, Go.Proofs.Try.func13, ⟨trivial, Go.Proofs.Try.func14, trivial⟩⟩⟩⟩, Go.Proofs.Try.func15, ⟨⟨⟨⟨trivial, Go.Proofs.Try.func16, trivial⟩, Go.Proofs.Try.func17, ⟨trivial, Go.Proofs.Try.func18, trivial⟩⟩, Go.Proofs.Try.func19, ⟨⟨trivial, Go.Proofs.Try.func20, trivial⟩, Go.Proofs.Try.func21, ⟨trivial, Go.Proofs.Try.func22, trivial⟩⟩⟩, Go.Proofs.Try.func23, ⟨⟨⟨trivial, Go.Proofs.Try.func24, trivial⟩, Go.Proofs.Try.func25, ⟨trivial, Go.Proofs.Try.func26, trivial⟩⟩, Go.Proofs.Try.func27, ⟨⟨trivial, Go.Proofs.Try.func28, trivial⟩, Go.Proofs.Try.func29, ⟨trivial, Go.Proofs.Try.func30, trivial⟩⟩⟩⟩⟩, Go.Proofs.Try.func31, ⟨⟨⟨⟨⟨trivial, Go.Proofs.Try.func32, trivial⟩, Go.Proofs.Try.func33, ⟨trivial, Go.Proofs.Try.func34, trivial⟩⟩, Go.Proofs.Try.func35, ⟨⟨trivial, Go.Proofs.Try.func36, trivial⟩, Go.Proofs.Try.func37, ⟨trivial, Go.Proofs.Try.func38, trivial⟩⟩⟩, Go.Proofs.Try.func39, ⟨⟨⟨trivial, Go.Proofs.Try.func40, trivial⟩, Go.Proofs.Try.func41, ⟨trivial, Go.Proofs.Try.func42, trivial⟩⟩, Go.Proofs.Try.func43, ⟨⟨trivial, Go.Proofs.Try.func44, trivial⟩, Go.Proofs.Try.func45, ⟨trivial, Go.Proofs.Try.func46, trivial⟩⟩⟩⟩, Go.Proofs.Try.func47, ⟨⟨⟨⟨trivial, Go.Proofs.Try.func48, trivial⟩, Go.Proofs.Try.func49, ⟨trivial, Go.Proofs.Try.func50, trivial⟩⟩, Go.Proofs.Try.func51, ⟨⟨trivial, Go.Proofs.Try.func52, trivial⟩, Go.Proofs.Try.func53, ⟨trivial, Go.Proofs.Try.func54, trivial⟩⟩⟩, Go.Proofs.Try.func55, ⟨⟨⟨trivial, Go.Proofs.Try.func56, trivial⟩, Go.Proofs.Try.func57, ⟨trivial, Go.Proofs.Try.func58, trivial⟩⟩, Go.Proofs.Try.func59, ⟨⟨trivial, Go.Proofs.Try.func60, trivial⟩, Go.Proofs.Try.func61, trivial⟩⟩⟩⟩⟩, Go.Proofs.Try.func62, ⟨⟨⟨⟨⟨⟨trivial, Go.Proofs.Try.func63, trivial⟩, Go.Proofs.Try.func64, ⟨trivial, Go.Proofs.Try.func65, trivial⟩⟩, Go.Proofs.Try.func66, ⟨⟨trivial, Go.Proofs.Try.func67, trivial⟩, Go.Proofs.Try.func68, ⟨trivial, Go.Proofs.Try.func69, trivial⟩⟩⟩, Go.Proofs.Try.func70, ⟨⟨⟨trivial, Go.Proofs.Try.func71, trivial⟩, Go.Proofs.Try.func72, ⟨trivial, Go.Proofs.Try.func73, trivial⟩⟩, Go.Proofs.Try.func74, ⟨⟨trivial, Go.Proofs.Try.func75, trivial⟩, Go.Proofs.Try.func76, ⟨trivial, Go.Proofs.Try.func77, trivial⟩⟩⟩⟩, Go.Proofs.Try.func78, ⟨⟨⟨⟨trivial, Go.Proofs.Try.func79, trivial⟩, Go.Proofs.Try.func80, ⟨trivial, Go.Proofs.Try.func81, trivial⟩⟩, Go.Proofs.Try.func82, ⟨⟨trivial, Go.Proofs.Try.func83, trivial⟩, Go.Proofs.Try.func84, ⟨trivial, Go.Proofs.Try.func85, trivial⟩⟩⟩, Go.Proofs.Try.func86, ⟨⟨⟨trivial, Go.Proofs.Try.func87, trivial⟩, Go.Proofs.Try.func88, ⟨trivial, Go.Proofs.Try.func89, trivial⟩⟩, Go.Proofs.Try.func90, ⟨⟨trivial, Go.Proofs.Try.func91, trivial⟩, Go.Proofs.Try.func92, ⟨trivial, Go.Proofs.Try.func93, trivial⟩⟩⟩⟩⟩, Go.Proofs.Try.func94, ⟨⟨⟨⟨⟨trivial, Go.Proofs.Try.func95, trivial⟩, Go.Proofs.Try.func96, ⟨trivial, Go.Proofs.Try.func97, trivial⟩⟩, Go.Proofs.Try.func98, ⟨⟨trivial, Go.Proofs.Try.func99, trivial⟩, Go.Proofs.Try.func100, ⟨trivial, Go.Proofs.Try.func101, trivial⟩⟩⟩, Go.Proofs.Try.func102, ⟨⟨⟨trivial, Go.Proofs.Try.func103, trivial⟩, Go.Proofs.Try.func104, ⟨trivial, Go.Proofs.Try.func105, trivial⟩⟩, Go.Proofs.Try.func106, ⟨⟨trivial, Go.Proofs.Try.func107, trivial⟩, Go.Proofs.Try.func108, ⟨trivial, Go.Proofs.Try.func109, trivial⟩⟩⟩⟩, Go.Proofs.Try.func110, ⟨⟨⟨⟨trivial, Go.Proofs.Try.func111, trivial⟩, Go.Proofs.Try.func112, ⟨trivial, Go.Proofs.Try.func113, trivial⟩⟩, Go.Proofs.Try.func114, ⟨⟨trivial, Go.Proofs.Try.func115, trivial⟩, Go.Proofs.Try.func116, ⟨trivial, Go.Proofs.Try.func117, trivial⟩⟩⟩, Go.Proofs.Try.func118, ⟨⟨⟨trivial, Go.Proofs.Try.func119, trivial⟩, Go.Proofs.Try.func120, ⟨trivial, Go.Proofs.Try.func121, trivial⟩⟩, Go.Proofs.Try.func122, ⟨⟨trivial, Go.Proofs.Try.func123, trivial⟩, Go.Proofs.Try.func124, trivial⟩⟩⟩⟩⟩⟩
theorem FT_ok {f : Nat} {fn : Func} (h : FT f = some fn) : Go.Proofs.Try.prog.funcs[f]? = some fn := BT.get_all FT_all h
end Go.Eng
end
