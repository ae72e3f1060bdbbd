/- The functions by number. -/
import Derived.Test.YtkconbpjimjbnaaSh5
import Derived.Test.YtkconbpjimjbnaaProg
section
namespace Go.Eng
open Go Go.Eng
noncomputable def FTree : BT Func :=
  
  (.node 
  (.node 
  (.node 
  (.node 
  (.node 
  (.node 
  (.node .nil 0 Go.Proofs.Try.f0 .nil) 1 Go.Proofs.Try.f1 .nil) 2 Go.Proofs.Try.f2 
  (.node .nil 3 Go.Proofs.Try.f3 .nil)) 4 Go.Proofs.Try.f4 
  (.node 
  (.node 
  (.node .nil 5 Go.Proofs.Try.f5 .nil) 6 Go.Proofs.Try.f6 .nil) 7 Go.Proofs.Try.f7 
  (.node .nil 8 Go.Proofs.Try.f8 .nil))) 9 Go.Proofs.Try.f9 
  (.node 
  (.node 
  (.node 
  (.node .nil 10 Go.Proofs.Try.f10 .nil) 11 Go.Proofs.Try.f11 .nil) 12 Go.Proofs.Try.f12 
  (.node .nil 13 Go.Proofs.Try.f13 .nil)) 14 Go.Proofs.Try.f14 
  (.node 
  (.node 
  (.node .nil 15 Go.Proofs.Try.f15 .nil) 16 Go.Proofs.Try.f16 .nil) 17 Go.Proofs.Try.f17 
  (.node .nil 18 Go.Proofs.Try.f18 .nil)))) 19 Go.Proofs.Try.f19 
  (.node 
  (.node 
  (.node 
  (.node 
  (.node .nil 20 Go.Proofs.Try.f20 .nil) 21 Go.Proofs.Try.f21 .nil) 22 Go.Proofs.Try.f22 
  (.node .nil 23 Go.Proofs.Try.f23 .nil)) 24 Go.Proofs.Try.f24 
  (.node 
  (.node 
  (.node .nil 25 Go.Proofs.Try.f25 .nil) 26 Go.Proofs.Try.f26 .nil) 27 Go.Proofs.Try.f27 
  (.node .nil 28 Go.Proofs.Try.f28 .nil))) 29 Go.Proofs.Try.f29 
  (.node 
  (.node 
  (.node 
  (.node .nil 30 Go.Proofs.Try.f30 .nil) 31 Go.Proofs.Try.f31 .nil) 32 Go.Proofs.Try.f32 
  (.node .nil 33 Go.Proofs.Try.f33 .nil)) 34 Go.Proofs.Try.f34 
  (.node 
  (.node .nil 35 Go.Proofs.Try.f35 .nil) 36 Go.Proofs.Try.f36 
  (.node .nil 37 Go.Proofs.Try.f37 .nil))))) 38 Go.Proofs.Try.f38 
  (.node 
  (.node 
  (.node 
  (.node 
  (.node 
  (.node .nil 39 Go.Proofs.Try.f39 .nil) 40 Go.Proofs.Try.f40 .nil) 41 Go.Proofs.Try.f41 
  (.node .nil 42 Go.Proofs.Try.f42 .nil)) 43 Go.Proofs.Try.f43 
  (.node 
  (.node 
  (.node .nil 44 Go.Proofs.Try.f44 .nil) 45 Go.Proofs.Try.f45 .nil) 46 Go.Proofs.Try.f46 
  (.node .nil 47 Go.Proofs.Try.f47 .nil))) 48 Go.Proofs.Try.f48 
  (.node 
  (.node 
  (.node 
  (.node .nil 49 Go.Proofs.Try.f49 .nil) 50 Go.Proofs.Try.f50 .nil) 51 Go.Proofs.Try.f51 
  (.node .nil 52 Go.Proofs.Try.f52 .nil)) 53 Go.Proofs.Try.f53 
  (.node 
  (.node 
  (.node .nil 54 Go.Proofs.Try.f54 .nil) 55 Go.Proofs.Try.f55 .nil) 56 Go.Proofs.Try.f56 
  (.node .nil 57 Go.Proofs.Try.f57 .nil)))) 58 Go.Proofs.Try.f58 
  (.node 
  (.node 
  (.node 
  (.node 
  (.node .nil 59 Go.Proofs.Try.f59 .nil) 60 Go.Proofs.Try.f60 .nil) 61 Go.Proofs.Try.f61 
  (.node .nil 62 Go.Proofs.Try.f62 .nil)) 63 Go.Proofs.Try.f63 
  (.node 
  (.node 
  (.node .nil 64 Go.Proofs.Try.f64 .nil) 65 Go.Proofs.Try.f65 .nil) 66 Go.Proofs.Try.f66 
  (.node .nil 67 Go.Proofs.Try.f67 .nil))) 68 Go.Proofs.Try.f68 
  (.node 
  (.node 
  (.node 
  (.node .nil 69 Go.Proofs.Try.f69 .nil) 70 Go.Proofs.Try.f70 .nil) 71 Go.Proofs.Try.f71 
  (.node .nil 72 Go.Proofs.Try.f72 .nil)) 73 Go.Proofs.Try.f73 
  (.node 
  (.node .nil 74 Go.Proofs.Try.f74 .nil) 75 Go.Proofs.Try.f75 
  (.node .nil 76 Go.Proofs.Try.f76 .nil))))))
noncomputable def FT : Nat → Option Func := fun f => FTree.get f
theorem FT_all : FTree.AllP (fun f fn => Go.Proofs.Try.prog.funcs[f]? = some fn) :=
  ⟨⟨⟨⟨⟨⟨⟨trivial, Go.Proofs.Try.func0, trivial⟩, Go.Proofs.Try.func1, trivial⟩, Go.Proofs.Try.func2, ⟨trivial, Go.Proofs.Try.func3, trivial⟩⟩, Go.Proofs.Try.func4, ⟨⟨⟨trivial, Go.Proofs.Try.func5, trivial⟩, Go.Proofs.Try.func6, trivial⟩, Go.Proofs.Try.func7, ⟨trivial, Go.Proofs.Try.func8, trivial⟩⟩⟩, Go.Proofs.Try.func9, ⟨⟨⟨⟨trivial, Go.Proofs.Try.func10, trivial⟩, Go.Proofs.Try.func11, trivial⟩, Go.Proofs.Try.func12, ⟨trivial, Go.Proofs.Try.func13, trivial⟩⟩, Go.Proofs.Try.func14, ⟨⟨⟨trivial, Go.Proofs.Try.func15, trivial⟩, Go.Proofs.Try.func16, trivial⟩, Go.Proofs.Try.func17, ⟨trivial, Go.Proofs.Try.func18, trivial⟩⟩⟩⟩, Go.Proofs.Try.func19, ⟨⟨⟨⟨⟨trivial, Go.Proofs.Try.func20, trivial⟩, Go.Proofs.Try.func21, trivial⟩, Go.Proofs.Try.func22, ⟨trivial, Go.Proofs.Try.func23, trivial⟩⟩, Go.Proofs.Try.func24, ⟨⟨⟨trivial, Go.Proofs.Try.func25, trivial⟩, Go.Proofs.Try.func26, trivial⟩, Go.Proofs.Try.func27, ⟨trivial, Go.Proofs.Try.func28, trivial⟩⟩⟩, Go.Proofs.Try.func29, ⟨⟨⟨⟨trivial, Go.Proofs.Try.func30, trivial⟩, Go.Proofs.Try.func31, trivial⟩, Go.Proofs.Try.func32, ⟨trivial, Go.Proofs.Try.func33, trivial⟩⟩, Go.Proofs.Try.func34, ⟨⟨trivial, Go.Proofs.Try.func35, trivial⟩, Go.Proofs.Try.func36, ⟨trivial, Go.Proofs.Try.func37, trivial⟩⟩⟩⟩⟩, Go.Proofs.Try.func38, ⟨⟨⟨⟨⟨⟨trivial, Go.Proofs.Try.func39, trivial⟩, Go.Proofs.Try.func40, trivial⟩, Go.Proofs.Try.func41, ⟨trivial, Go.Proofs.Try.func42, trivial⟩⟩, Go.Proofs.Try.func43, ⟨⟨⟨trivial, Go.Proofs.Try.func44, trivial⟩, Go.Proofs.Try.func45, trivial⟩, Go.Proofs.Try.func46, ⟨trivial, Go.Proofs.Try.func47, trivial⟩⟩⟩, Go.Proofs.Try.func48, ⟨⟨⟨⟨trivial, Go.Proofs.Try.func49, trivial⟩, Go.Proofs.Try.func50, trivial⟩, Go.Proofs.Try.func51, ⟨trivial, Go.Proofs.Try.func52, trivial⟩⟩, Go.Proofs.Try.func53, ⟨⟨⟨trivial, Go.Proofs.Try.func54, trivial⟩, Go.Proofs.Try.func55, trivial⟩, Go.Proofs.Try.func56, ⟨trivial, Go.Proofs.Try.func57, trivial⟩⟩⟩⟩, Go.Proofs.Try.func58, ⟨⟨⟨⟨⟨trivial, Go.Proofs.Try.func59, trivial⟩, Go.Proofs.Try.func60, trivial⟩, Go.Proofs.Try.func61, ⟨trivial, Go.Proofs.Try.func62, trivial⟩⟩, Go.Proofs.Try.func63, ⟨⟨⟨trivial, Go.Proofs.Try.func64, trivial⟩, Go.Proofs.Try.func65, trivial⟩, Go.Proofs.Try.func66, ⟨trivial, Go.Proofs.Try.func67, trivial⟩⟩⟩, Go.Proofs.Try.func68, ⟨⟨⟨⟨trivial, Go.Proofs.Try.func69, trivial⟩, Go.Proofs.Try.func70, trivial⟩, Go.Proofs.Try.func71, ⟨trivial, Go.Proofs.Try.func72, trivial⟩⟩, Go.Proofs.Try.func73, ⟨⟨trivial, Go.Proofs.Try.func74, trivial⟩, Go.Proofs.Try.func75, ⟨trivial, Go.Proofs.Try.func76, trivial⟩⟩⟩⟩⟩⟩
theorem FT_ok {f : Nat} {fn : Func} (h : FT f = some fn) : Go.Proofs.Try.prog.funcs[f]? = some fn := BT.get_all FT_all h
end Go.Eng
end
