/- The functions by number. -/
import Derived.Test.YtjicjmpkgpbdbaaGreatDoorEngBt
import Derived.Test.YtjicjmpkgpbdbaaGreatDoorProg
namespace Go.Proofs.YtjicjmpkgpbdbaaGreatDoor
open Go Go.Eng
noncomputable def FTree : BT Func :=
  
  (.node 
  (.node 
  (.node 
  (.node .nil 3 Go.Proofs.Tryz.f3 .nil) 4 Go.Proofs.Tryz.f4 
  (.node .nil 5 Go.Proofs.Tryz.f5 .nil)) 6 Go.Proofs.Tryz.f6 
  (.node 
  (.node .nil 7 Go.Proofs.Tryz.f7 .nil) 8 Go.Proofs.Tryz.f8 .nil)) 9 Go.Proofs.Tryz.f9 
  (.node 
  (.node 
  (.node .nil 10 Go.Proofs.Tryz.f10 .nil) 11 Go.Proofs.Tryz.f11 
  (.node .nil 12 Go.Proofs.Tryz.f12 .nil)) 13 Go.Proofs.Tryz.f13 
  (.node 
  (.node .nil 14 Go.Proofs.Tryz.f14 .nil) 15 Go.Proofs.Tryz.f15 .nil)))
noncomputable def FT : Nat → Option Func := fun f => FTree.get f
set_option maxRecDepth 100000
theorem FT_all : FTree.AllP (fun f fn => Go.Proofs.Tryz.prog.funcs[f]? = some fn) :=
  ⟨⟨⟨⟨trivial, Go.Proofs.Tryz.func3, trivial⟩, Go.Proofs.Tryz.func4, ⟨trivial, Go.Proofs.Tryz.func5, trivial⟩⟩, Go.Proofs.Tryz.func6, ⟨⟨trivial, Go.Proofs.Tryz.func7, trivial⟩, Go.Proofs.Tryz.func8, trivial⟩⟩, Go.Proofs.Tryz.func9, ⟨⟨⟨trivial, Go.Proofs.Tryz.func10, trivial⟩, Go.Proofs.Tryz.func11, ⟨trivial, Go.Proofs.Tryz.func12, trivial⟩⟩, Go.Proofs.Tryz.func13, ⟨⟨trivial, Go.Proofs.Tryz.func14, trivial⟩, Go.Proofs.Tryz.func15, trivial⟩⟩⟩
theorem FT_ok {f : Nat} {fn : Func} (h : FT f = some fn) : Go.Proofs.Tryz.prog.funcs[f]? = some fn := BT.get_all FT_all h
end Go.Proofs.YtjicjmpkgpbdbaaGreatDoor
