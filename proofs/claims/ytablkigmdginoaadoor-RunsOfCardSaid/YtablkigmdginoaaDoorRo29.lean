/- Sets of runs: how many zeros stand behind a number's last one: the library's contract. -/
import Derived.Test.YtablkigmdginoaaDoorRo28
import Derived.Test.YtablkigmdginoaaDoorRo18
import Derived.Test.YtablkigmdginoaaDoorRo26
import Derived.Shelf.Spec.TrailingZeros
section
namespace Go.Proofs
open Go.Shelf
def Tryd.lays29_ren : Go.Shelf.Ren := ⟨fun | 29 => 50 | n => n, fun | 22 => 24 | 25 => 86 | 54 => 104 | n => n, fun | 1 => 0 | n => n⟩
theorem Tryd.lays29 : Go.Proofs.Lays7.n29 Tryd.prog Tryd.lays29_ren := {
  mixed := by kernel_rfl
  f29 := Tryd.func50.trans (congrArg some (by kernel_rfl))
  t0 := Tryd.underlying0
  a0 := Tryd.isAgg0
  z0 := Tryd.sizeOf0
  v0 := Tryd.zeroValue0
  i0 := by kernel_rfl
  t3 := Tryd.underlying3
  a3 := Tryd.isAgg3
  z3 := Tryd.sizeOf3
  v3 := Tryd.zeroValue3
  i3 := by kernel_rfl
  t4 := Tryd.underlying4
  a4 := Tryd.isAgg4
  z4 := Tryd.sizeOf4
  v4 := Tryd.zeroValue4
  i4 := by kernel_rfl
  t5 := Tryd.underlying5
  a5 := Tryd.isAgg5
  z5 := Tryd.sizeOf5
  v5 := Tryd.zeroValue5
  i5 := by kernel_rfl
  t22 := Tryd.underlying24
  a22 := Tryd.isAgg24
  z22 := Tryd.sizeOf24
  v22 := Tryd.zeroValue24
  i22 := by kernel_rfl
  t25 := Tryd.underlying86
  a25 := Tryd.isAgg86
  z25 := Tryd.sizeOf86
  v25 := Tryd.zeroValue86
  i25 := by kernel_rfl
  t54 := Tryd.underlying104
  a54 := Tryd.isAgg104
  z54 := Tryd.sizeOf104
  g1 := by kernel_rfl }
end Go.Proofs
namespace Go.Eng
open Go
set_option maxRecDepth 100000
theorem tab_gl {w : World} {lv : Nat → Nat} (h : RD w lv (.list .any (Go.Lib.deBruijn64tab.map fun n => D.int .u8 (n : Nat)).length [Go.Lib.deBruijn64tab.map fun n => D.int .u8 (n : Nat)]) (.slice (some ⟨0, 0, none⟩) 1 1)) : Go.Proofs.TabAt 0 Go.Lib.deBruijn64tab w := by
  intro j hj
  have hj2 : j < (Go.Lib.deBruijn64tab.map fun n => D.int .u8 (n : Nat)).length := by rw [List.length_map]; exact hj
  have e : (Go.Lib.deBruijn64tab.map fun n => D.int .u8 (n : Nat))[j]? = some (.int .u8 ((Go.Lib.deBruijn64tab.getD j 0 : Nat) : Int)) := by
    rw [List.getElem?_map, List.getD_eq_getElem?_getD, List.getElem?_eq_getElem hj]
    rfl
  generalize hxs : [Go.Lib.deBruijn64tab.map fun n => D.int .u8 (n : Nat)] = xs at h
  generalize hl : 1 = one at h
  cases h with
  | void => cases hxs
  | list vs hsz hcap hmax hlv hc hr hk hfu =>
    have h0 : xs[0]? = some (Go.Lib.deBruijn64tab.map fun n => D.int .u8 (n : Nat)) := by rw [← hxs]; rfl
    have q1 := hc 0 _ j _ h0 e
    have q2 := hr 0 _ j _ h0 e
    rw [show 0 + (0 * (Go.Lib.deBruijn64tab.map fun n => D.int .u8 (n : Nat)).length + j) = j by omega] at q1
    generalize vs 0 j = v at q1 q2
    cases q2
    exact q1
theorem gl0 : pkgGl 0 = some (Go.Lib.deBruijn64tab.map fun n => D.int .u8 (n : Nat)) := by simp only [pkgGl, default, if_true]
noncomputable def sTz : Spec := fun xs G => match xs with
  | [.dat (.int .u64 n)] => if 0 ≤ n ∧ n < 18446744073709551616 then some (.dat (.int .i64 (Go.Lib.ctz 64 n.toNat : Nat)), G) else none
  | _ => none
theorem c50 : COk PP 50 sTz := by
  refine COk.belowW ⟨_, Go.Proofs.Tryd.func50, by kernel_rfl, by kernel_rfl⟩ (fun c xs G vs r G' hs hm hv => ?_) (by decide)
  unfold sTz at hs
  split at hs
  · rename_i n
    split at hs
    · rename_i hc
      simp only [Option.some.injEq, Prod.mk.injEq] at hs
      obtain ⟨rfl, rfl⟩ := hs
      obtain ⟨v, rfl, h0⟩ := args_one hv
      rw [h0.int_inv]
      have hT : Go.Proofs.TabAt 0 Go.Lib.deBruijn64tab c.w := tab_gl (hm.wf.pk.gl 0 _ gl0)
      have hcall : Calls PP 50 #[.int .u64 ((n.toNat : Nat) : Int)] c.w fun e w' => e = .returned (.int .i64 (Go.Lib.ctz 64 n.toNat : Nat)) ∧ w' = c.w := Go.Proofs.Any7.bits_TrailingZeros64 Go.Proofs.Tryd.lays29 n.toNat (by omega) c.w fun _ => hT
      rw [Int.toNat_of_nonneg hc.1] at hcall
      refine ⟨rfl, rfl, fun _ _ _ => (by simp), hcall.mono fun e w' q => ⟨_, q.1, fun _ => .dat (.int _ _), ?_⟩⟩
      rw [q.2]
      exact RowKit.Below.refl _ _
    · cases hs
  · cases hs
end Go.Eng
end

/- Sets of runs: the numbers of a set, as trees. -/
section
namespace Go.Eng
open Go
set_option maxRecDepth 100000
noncomputable def S50 : Spec := sTz
def oI (G : List Ent) (n : Int) : AV × List Ent := (jn n, G)
noncomputable def t38 : TOrc := tCons 50 (fun a G => tspec (oI G) (S50 a G)) tNone
def HSp (f : Nat) : Nat → List Nat := match f with
  | 38 => hOfS [(3, [3, 6, 7]), (1000003, [3]), (5, [3, 4, 5, 6, 7]), (1000005, [3, 6, 7])]
  | _ => fun _ => []
noncomputable def lp38 : Code := lpOf (codeOf Go.Proofs.Tryd.f38) 0
noncomputable def lp38b : Code := lpOf lp38 0
def inv38bn (a b i w : Int) : St := ⟨mkT 0 27 [(3, .dat (.list .nil 0 [])), (4, jn i), (5, .dat (.int .u64 w)), (6, st2 a b), (7, jn i)], ⟨[], [], 0⟩⟩
def inv38br (r : Row) (a b i w : Int) : St := ⟨mkT 0 27 [(3, .sh false 0 1 0 r.length), (4, jn i), (5, .dat (.int .u64 w)), (6, st2 a b), (7, jn i)], ⟨[some (.row .excl 1 r)], [], 0⟩⟩
noncomputable def rk38bn (a b i w : Int) : Tr (Ex × St) := tround TT t38 noLo (HSp 38) lp38b (inv38bn a b i w)
noncomputable def rk38br (r : Row) (a b i w : Int) : Tr (Ex × St) := tround TT t38 noLo (HSp 38) lp38b (inv38br r a b i w)
def out38n (a6 a7 : AV) (_ : Unit) : Ex × St := (.exit 2, ⟨mkT 0 27 [(3, .dat (.list .nil 0 [])), (6, a6), (7, a7)], ⟨[], [], 0⟩⟩)
def out38r (a6 a7 : AV) (r : Row) : Ex × St := (.exit 2, ⟨mkT 0 27 [(3, .sh false 0 1 0 r.length), (6, a6), (7, a7)], ⟨[some (.row .excl 1 r)], [], 0⟩⟩)
noncomputable def lo38b (n : Nat) (st : St) : Tr (Ex × St) := match n with
  | 5 => tlo2 TT t38.runs (HSp 38) lp38b (out38n (st.tmps.getD 6 .dead) (st.tmps.getD 7 .dead)) (out38r (st.tmps.getD 6 .dead) (st.tmps.getD 7 .dead)) st
  | _ => .fail
def inv38n (a b i : Int) : St := ⟨mkT 0 27 [(3, .dat (.list .nil 0 [])), (6, st2 a b), (7, jn i)], ⟨[], [], 0⟩⟩
def inv38r (r : Row) (a b i : Int) : St := ⟨mkT 0 27 [(3, .sh false 0 1 0 r.length), (6, st2 a b), (7, jn i)], ⟨[some (.row .excl 1 r)], [], 0⟩⟩
noncomputable def rk38n0 (a b : Int) : Tr (Ex × St) := tround TT t38 lo38b (HSp 38) lp38 (inv38n a b 0)
noncomputable def rk38n1 (a b : Int) : Tr (Ex × St) := tround TT t38 lo38b (HSp 38) lp38 (inv38n a b 1)
noncomputable def rk38n2 (a b : Int) : Tr (Ex × St) := tround TT t38 lo38b (HSp 38) lp38 (inv38n a b 2)
noncomputable def rk38r1 (r : Row) (a b : Int) : Tr (Ex × St) := tround TT t38 lo38b (HSp 38) lp38 (inv38r r a b 1)
noncomputable def rk38r2 (r : Row) (a b : Int) : Tr (Ex × St) := tround TT t38 lo38b (HSp 38) lp38 (inv38r r a b 2)
def out38x (_ : Unit) : Ex × St := (.exit 0, ⟨mkT 0 27 [(3, .dat (.list .nil 0 []))], ⟨[], [], 0⟩⟩)
def out38y (r : Row) : Ex × St := (.exit 0, ⟨mkT 0 27 [(3, .sh false 0 1 0 r.length)], ⟨[some (.row .excl 1 r)], [], 0⟩⟩)
noncomputable def lo38 (n : Nat) (st : St) : Tr (Ex × St) := match n with
  | 3 => tlo2 TT t38.runs (HSp 38) lp38 out38x out38y st
  | _ => .fail
noncomputable def f38t (a b : Int) : Tr (AV × List Ent) := tfn TT t38 lo38 Go.Proofs.Tryd.f38 [st2 a b] []
noncomputable def R38 (a : List AV) (G : List Ent) : Option (AV × List Ent) := (tfn TT t38 lo38 Go.Proofs.Tryd.f38 a G).run
end Go.Eng
end

/- Sets of runs: the program's List is the numbers that a set tells. -/
section
namespace Go.Eng
open Go
set_option maxRecDepth 100000
set_option linter.unusedSimpArgs false

theorem rk38bn_eq (a b i w : Int) : (rk38bn a b i w).ev =
  (rAsk (w != (0 : Int))
   (rGet (fnS (fun (n : Int) => ((AV.dat (D.int IntKind.i64 n)), [])) (S50 [(AV.dat (D.int IntKind.u64 w))] [])) fun x1 =>
    (some (Ex.norm, (St.mk (mkT 0 27 [(3, (AV.sh false 0 1 0 1)), (4, (AV.dat (D.int IntKind.i64 i))), (5, (AV.dat (D.int IntKind.u64 (IntKind.wrap IntKind.u64 (((BitVec.toNat ((BitVec.ofInt 64 w) &&& (BitVec.ofInt 64 (IntKind.wrap IntKind.u64 (w - (1 : Int)))))) : Nat) : Int))))), (6, (AV.agg [(AV.dat (D.int IntKind.u64 a)), (AV.dat (D.int IntKind.u64 b))])), (7, (AV.dat (D.int IntKind.i64 i)))]) (Mem.mk [(Option.some (Ent.row Mode.excl 1 [[(D.int IntKind.i64 (IntKind.wrap IntKind.i64 ((IntKind.wrap IntKind.i64 ((64 : Int) * i)) + x1)))]]))] [] 0))))
   )
   (some ((Ex.exit 2), (St.mk (mkT 0 27 [(3, (AV.dat (D.list LK.nil 0 ([] : Row)))), (6, (AV.agg [(AV.dat (D.int IntKind.u64 a)), (AV.dat (D.int IntKind.u64 b))])), (7, (AV.dat (D.int IntKind.i64 i)))]) (Mem.mk [] [] 0))))
  )
  := by kernel_rfl
theorem rk38br_eq (r : Row) (a b i w : Int) : (rk38br r a b i w).ev =
  (rAsk (w != (0 : Int))
   (rGet (fnS (fun (n : Int) => ((AV.dat (D.int IntKind.i64 n)), [])) (S50 [(AV.dat (D.int IntKind.u64 w))] [])) fun x1 =>
    (rAsk ((decide ((0 + (List.length r)) ≤ (List.length r))) && (fits (TI.mk (TK.int IntKind.i64) 1 8 [(AV.dat (D.int IntKind.i64 (0 : Int)))] true) ((List.length r) + 1)))
     (rAsk (true && (decide ((List.length r) = (List.length r))))
      (some (Ex.norm, (St.mk (mkT 0 27 [(3, (AV.sh false 0 1 0 ((List.length r) + 1))), (4, (AV.dat (D.int IntKind.i64 i))), (5, (AV.dat (D.int IntKind.u64 (IntKind.wrap IntKind.u64 (((BitVec.toNat ((BitVec.ofInt 64 w) &&& (BitVec.ofInt 64 (IntKind.wrap IntKind.u64 (w - (1 : Int)))))) : Nat) : Int))))), (6, (AV.agg [(AV.dat (D.int IntKind.u64 a)), (AV.dat (D.int IntKind.u64 b))])), (7, (AV.dat (D.int IntKind.i64 i)))]) (Mem.mk [(Option.some (Ent.row Mode.excl 1 (r ++ [[(D.int IntKind.i64 (IntKind.wrap IntKind.i64 ((IntKind.wrap IntKind.i64 ((64 : Int) * i)) + x1)))]])))] [] 0))))
      none
     )
     none
    )
   )
   (some ((Ex.exit 2), (St.mk (mkT 0 27 [(3, (AV.sh false 0 1 0 (List.length r))), (6, (AV.agg [(AV.dat (D.int IntKind.u64 a)), (AV.dat (D.int IntKind.u64 b))])), (7, (AV.dat (D.int IntKind.i64 i)))]) (Mem.mk [(Option.some (Ent.row Mode.excl 1 r))] [] 0))))
  )
  := by kernel_rfl
theorem rk38n0_eq (a b : Int) : (rk38n0 a b).ev =
  (rAsk (Option.isSome (loS TT (TOrc.runs t38) (HSp 38) lp38b (out38n (AV.agg [(AV.dat (D.int IntKind.u64 a)), (AV.dat (D.int IntKind.u64 b))]) (AV.dat (D.int IntKind.i64 (0 : Int)))) (St.mk (mkT 0 27 [(3, (AV.dat (D.list LK.nil 0 ([] : Row)))), (4, (AV.dat (D.int IntKind.i64 (0 : Int)))), (5, (AV.dat (D.int IntKind.u64 a))), (6, (AV.agg [(AV.dat (D.int IntKind.u64 a)), (AV.dat (D.int IntKind.u64 b))])), (7, (AV.dat (D.int IntKind.i64 (0 : Int))))]) (Mem.mk [] [] 0))))
   (rGet (loS TT (TOrc.runs t38) (HSp 38) lp38b (out38n (AV.agg [(AV.dat (D.int IntKind.u64 a)), (AV.dat (D.int IntKind.u64 b))]) (AV.dat (D.int IntKind.i64 (0 : Int)))) (St.mk (mkT 0 27 [(3, (AV.dat (D.list LK.nil 0 ([] : Row)))), (4, (AV.dat (D.int IntKind.i64 (0 : Int)))), (5, (AV.dat (D.int IntKind.u64 a))), (6, (AV.agg [(AV.dat (D.int IntKind.u64 a)), (AV.dat (D.int IntKind.u64 b))])), (7, (AV.dat (D.int IntKind.i64 (0 : Int))))]) (Mem.mk [] [] 0))) fun _ =>
    (some (Ex.norm, (St.mk (mkT 0 27 [(3, (AV.dat (D.list LK.nil 0 ([] : Row)))), (6, (AV.agg [(AV.dat (D.int IntKind.u64 a)), (AV.dat (D.int IntKind.u64 b))])), (7, (AV.dat (D.int IntKind.i64 (1 : Int))))]) (Mem.mk [] [] 0))))
   )
   (rGet (loS TT (TOrc.runs t38) (HSp 38) lp38b (out38r (AV.agg [(AV.dat (D.int IntKind.u64 a)), (AV.dat (D.int IntKind.u64 b))]) (AV.dat (D.int IntKind.i64 (0 : Int)))) (St.mk (mkT 0 27 [(3, (AV.dat (D.list LK.nil 0 ([] : Row)))), (4, (AV.dat (D.int IntKind.i64 (0 : Int)))), (5, (AV.dat (D.int IntKind.u64 a))), (6, (AV.agg [(AV.dat (D.int IntKind.u64 a)), (AV.dat (D.int IntKind.u64 b))])), (7, (AV.dat (D.int IntKind.i64 (0 : Int))))]) (Mem.mk [] [] 0))) fun x2 =>
    (some (Ex.norm, (St.mk (mkT 0 27 [(3, (AV.sh false 0 1 0 (List.length x2))), (6, (AV.agg [(AV.dat (D.int IntKind.u64 a)), (AV.dat (D.int IntKind.u64 b))])), (7, (AV.dat (D.int IntKind.i64 (1 : Int))))]) (Mem.mk [(Option.some (Ent.row Mode.excl 1 x2))] [] 0))))
   )
  )
  := by kernel_rfl
theorem rk38n1_eq (a b : Int) : (rk38n1 a b).ev =
  (rAsk (Option.isSome (loS TT (TOrc.runs t38) (HSp 38) lp38b (out38n (AV.agg [(AV.dat (D.int IntKind.u64 a)), (AV.dat (D.int IntKind.u64 b))]) (AV.dat (D.int IntKind.i64 (1 : Int)))) (St.mk (mkT 0 27 [(3, (AV.dat (D.list LK.nil 0 ([] : Row)))), (4, (AV.dat (D.int IntKind.i64 (1 : Int)))), (5, (AV.dat (D.int IntKind.u64 b))), (6, (AV.agg [(AV.dat (D.int IntKind.u64 a)), (AV.dat (D.int IntKind.u64 b))])), (7, (AV.dat (D.int IntKind.i64 (1 : Int))))]) (Mem.mk [] [] 0))))
   (rGet (loS TT (TOrc.runs t38) (HSp 38) lp38b (out38n (AV.agg [(AV.dat (D.int IntKind.u64 a)), (AV.dat (D.int IntKind.u64 b))]) (AV.dat (D.int IntKind.i64 (1 : Int)))) (St.mk (mkT 0 27 [(3, (AV.dat (D.list LK.nil 0 ([] : Row)))), (4, (AV.dat (D.int IntKind.i64 (1 : Int)))), (5, (AV.dat (D.int IntKind.u64 b))), (6, (AV.agg [(AV.dat (D.int IntKind.u64 a)), (AV.dat (D.int IntKind.u64 b))])), (7, (AV.dat (D.int IntKind.i64 (1 : Int))))]) (Mem.mk [] [] 0))) fun _ =>
    (some (Ex.norm, (St.mk (mkT 0 27 [(3, (AV.dat (D.list LK.nil 0 ([] : Row)))), (6, (AV.agg [(AV.dat (D.int IntKind.u64 a)), (AV.dat (D.int IntKind.u64 b))])), (7, (AV.dat (D.int IntKind.i64 (2 : Int))))]) (Mem.mk [] [] 0))))
   )
   (rGet (loS TT (TOrc.runs t38) (HSp 38) lp38b (out38r (AV.agg [(AV.dat (D.int IntKind.u64 a)), (AV.dat (D.int IntKind.u64 b))]) (AV.dat (D.int IntKind.i64 (1 : Int)))) (St.mk (mkT 0 27 [(3, (AV.dat (D.list LK.nil 0 ([] : Row)))), (4, (AV.dat (D.int IntKind.i64 (1 : Int)))), (5, (AV.dat (D.int IntKind.u64 b))), (6, (AV.agg [(AV.dat (D.int IntKind.u64 a)), (AV.dat (D.int IntKind.u64 b))])), (7, (AV.dat (D.int IntKind.i64 (1 : Int))))]) (Mem.mk [] [] 0))) fun x2 =>
    (some (Ex.norm, (St.mk (mkT 0 27 [(3, (AV.sh false 0 1 0 (List.length x2))), (6, (AV.agg [(AV.dat (D.int IntKind.u64 a)), (AV.dat (D.int IntKind.u64 b))])), (7, (AV.dat (D.int IntKind.i64 (2 : Int))))]) (Mem.mk [(Option.some (Ent.row Mode.excl 1 x2))] [] 0))))
   )
  )
  := by kernel_rfl
theorem rk38n2_eq (a b : Int) : (rk38n2 a b).ev =
  (some ((Ex.exit 0), (St.mk (mkT 0 27 [(3, (AV.dat (D.list LK.nil 0 ([] : Row))))]) (Mem.mk [] [] 0))))
  := by kernel_rfl
theorem rk38r1_eq (r : Row) (a b : Int) : (rk38r1 r a b).ev =
  (rAsk (Option.isSome (loS TT (TOrc.runs t38) (HSp 38) lp38b (out38n (AV.agg [(AV.dat (D.int IntKind.u64 a)), (AV.dat (D.int IntKind.u64 b))]) (AV.dat (D.int IntKind.i64 (1 : Int)))) (St.mk (mkT 0 27 [(3, (AV.sh false 0 1 0 (List.length r))), (4, (AV.dat (D.int IntKind.i64 (1 : Int)))), (5, (AV.dat (D.int IntKind.u64 b))), (6, (AV.agg [(AV.dat (D.int IntKind.u64 a)), (AV.dat (D.int IntKind.u64 b))])), (7, (AV.dat (D.int IntKind.i64 (1 : Int))))]) (Mem.mk [(Option.some (Ent.row Mode.excl 1 r))] [] 0))))
   (rGet (loS TT (TOrc.runs t38) (HSp 38) lp38b (out38n (AV.agg [(AV.dat (D.int IntKind.u64 a)), (AV.dat (D.int IntKind.u64 b))]) (AV.dat (D.int IntKind.i64 (1 : Int)))) (St.mk (mkT 0 27 [(3, (AV.sh false 0 1 0 (List.length r))), (4, (AV.dat (D.int IntKind.i64 (1 : Int)))), (5, (AV.dat (D.int IntKind.u64 b))), (6, (AV.agg [(AV.dat (D.int IntKind.u64 a)), (AV.dat (D.int IntKind.u64 b))])), (7, (AV.dat (D.int IntKind.i64 (1 : Int))))]) (Mem.mk [(Option.some (Ent.row Mode.excl 1 r))] [] 0))) fun _ =>
    (some (Ex.norm, (St.mk (mkT 0 27 [(3, (AV.dat (D.list LK.nil 0 ([] : Row)))), (6, (AV.agg [(AV.dat (D.int IntKind.u64 a)), (AV.dat (D.int IntKind.u64 b))])), (7, (AV.dat (D.int IntKind.i64 (2 : Int))))]) (Mem.mk [] [] 0))))
   )
   (rGet (loS TT (TOrc.runs t38) (HSp 38) lp38b (out38r (AV.agg [(AV.dat (D.int IntKind.u64 a)), (AV.dat (D.int IntKind.u64 b))]) (AV.dat (D.int IntKind.i64 (1 : Int)))) (St.mk (mkT 0 27 [(3, (AV.sh false 0 1 0 (List.length r))), (4, (AV.dat (D.int IntKind.i64 (1 : Int)))), (5, (AV.dat (D.int IntKind.u64 b))), (6, (AV.agg [(AV.dat (D.int IntKind.u64 a)), (AV.dat (D.int IntKind.u64 b))])), (7, (AV.dat (D.int IntKind.i64 (1 : Int))))]) (Mem.mk [(Option.some (Ent.row Mode.excl 1 r))] [] 0))) fun x2 =>
    (some (Ex.norm, (St.mk (mkT 0 27 [(3, (AV.sh false 0 1 0 (List.length x2))), (6, (AV.agg [(AV.dat (D.int IntKind.u64 a)), (AV.dat (D.int IntKind.u64 b))])), (7, (AV.dat (D.int IntKind.i64 (2 : Int))))]) (Mem.mk [(Option.some (Ent.row Mode.excl 1 x2))] [] 0))))
   )
  )
  := by kernel_rfl
theorem rk38r2_eq (r : Row) (a b : Int) : (rk38r2 r a b).ev =
  (some ((Ex.exit 0), (St.mk (mkT 0 27 [(3, (AV.sh false 0 1 0 (List.length r)))]) (Mem.mk [(Option.some (Ent.row Mode.excl 1 r))] [] 0))))
  := by kernel_rfl
theorem f38t_eq (a b : Int) : (f38t a b).ev =
  (rAsk (Option.isSome (loS TT (TOrc.runs t38) (HSp 38) lp38 out38x (St.mk (mkT 0 27 [(3, (AV.dat (D.list LK.nil 0 ([] : Row)))), (6, (AV.agg [(AV.dat (D.int IntKind.u64 a)), (AV.dat (D.int IntKind.u64 b))])), (7, (AV.dat (D.int IntKind.i64 (0 : Int))))]) (Mem.mk [] [] 0))))
   (rGet (loS TT (TOrc.runs t38) (HSp 38) lp38 out38x (St.mk (mkT 0 27 [(3, (AV.dat (D.list LK.nil 0 ([] : Row)))), (6, (AV.agg [(AV.dat (D.int IntKind.u64 a)), (AV.dat (D.int IntKind.u64 b))])), (7, (AV.dat (D.int IntKind.i64 (0 : Int))))]) (Mem.mk [] [] 0))) fun _ =>
    (some ((AV.dat (D.list LK.nil 0 ([] : Row))), []))
   )
   (rGet (loS TT (TOrc.runs t38) (HSp 38) lp38 out38y (St.mk (mkT 0 27 [(3, (AV.dat (D.list LK.nil 0 ([] : Row)))), (6, (AV.agg [(AV.dat (D.int IntKind.u64 a)), (AV.dat (D.int IntKind.u64 b))])), (7, (AV.dat (D.int IntKind.i64 (0 : Int))))]) (Mem.mk [] [] 0))) fun x2 =>
    (rAsk (wholeB false 0 (List.length x2) (List.length x2))
     (some ((AV.own true 1 x2), []))
     (some ((AV.dat (D.list LK.any 1 (List.take (List.length x2) (List.drop 0 x2)))), []))
    )
   )
  )
  := by kernel_rfl

def rowN (l : List Nat) : Row := l.map fun n => [.int .i64 (n : Nat)]
theorem rowN_len (l : List Nat) : (rowN l).length = l.length := by simp [rowN]
theorem oI_inj {G : List Ent} : ∀ x y, oI G x = oI G y → x = y := by intro x y h; simpa [oI, jn] using h
theorem S50_at {w : Nat} (h : w < 2 ^ 64) (G : List Ent) : S50 [.dat (.int .u64 (w : Nat))] G = some (oI G (Go.Lib.ctz 64 w : Nat)) := by
  simp only [S50, sTz]
  rw [if_pos (by omega), Int.toNat_natCast]
  rfl
theorem next_w {w : Nat} (h0 : w ≠ 0) (h : w < 2 ^ 64) : IntKind.wrap IntKind.u64 (((BitVec.toNat ((BitVec.ofInt 64 ((w : Nat) : Int)) &&& (BitVec.ofInt 64 (IntKind.wrap IntKind.u64 (((w : Nat) : Int) - (1 : Int)))))) : Nat) : Int) = ((w &&& (w - 1) : Nat) : Int) := by
  have e : IntKind.wrap IntKind.u64 (((w : Nat) : Int) - (1 : Int)) = ((w - 1 : Nat) : Int) := by
    rw [show ((w : Nat) : Int) - (1 : Int) = ((w - 1 : Nat) : Int) by omega]
    exact wrapU (by omega)
  rw [e, BitVec.toNat_and, ofI h, ofI (by omega)]
  exact wrapU (drop_lt h)
theorem out38n_inj {a b : AV} : ∀ x y, out38n a b x = out38n a b y → x = y := fun _ _ _ => rfl
theorem out38r_inj {a b : AV} : ∀ x y, out38r a b x = out38r a b y → x = y := by
  intro x y h
  simp [out38r] at h
  exact h.2
theorem out38_no {a b : AV} {y : Row} : ∀ x, out38n a b x ≠ out38r a b y := fun x h => by simp [out38n, out38r, mkT] at h
theorem out38x_inj : ∀ x y, out38x x = out38x y → x = y := fun _ _ _ => rfl
theorem out38y_inj : ∀ x y, out38y x = out38y y → x = y := by
  intro x y h
  simp [out38y] at h
  exact h.2
theorem out38xy_no {y : Row} : ∀ x, out38x x ≠ out38y y := fun x h => by simp [out38x, out38y, mkT] at h
attribute [local irreducible] fnS loS tround S50
theorem go38bn {a b i w : Int} {o} (h : (rk38bn a b i w).ev = o) : (tround TT t38 noLo (HSp 38) lp38b (inv38bn a b i w)).run = o := by
  rw [Tr.ev_run] at h
  exact h
theorem go38br {r : Row} {a b i w : Int} {o} (h : (rk38br r a b i w).ev = o) : (tround TT t38 noLo (HSp 38) lp38b (inv38br r a b i w)).run = o := by
  rw [Tr.ev_run] at h
  exact h
theorem ne0 {w : Nat} (h : w ≠ 0) : (((w : Nat) : Int) != (0 : Int)) = true := by
  rw [bne_iff_ne]
  omega
theorem num38 {i k : Nat} (hi : i ≤ 1) (hk : k < 64) : IntKind.wrap IntKind.i64 ((IntKind.wrap IntKind.i64 ((64 : Int) * ((i : Nat) : Int))) + ((k : Nat) : Int)) = ((64 * i + k : Nat) : Int) := by
  rw [w64 (n := 64 * i) (by omega) (x := (64 : Int) * ((i : Nat) : Int)) (by omega), w64 (n := 64 * i + k) (by omega) (x := ((64 * i : Nat) : Int) + ((k : Nat) : Int)) (by omega)]
theorem loop38r {a b : Int} {i : Nat} (hi : i ≤ 1) : ∀ (n w : Nat) (l : List Nat), w < 2 ^ 64 → (bitsL 64 w).length = n → l.length + n ≤ 1000 →
    LoopTo TT t38.runs (HSp 38) lp38b (inv38br (rowN l) a b i w) (out38r (st2 a b) (jn i) (rowN (l ++ (bitsL 64 w).map (64 * i + ·))))
  | 0, w, l, h, hn, _ => by
    by_cases h0 : w = 0
    · subst h0
      rw [bits_zero, List.map_nil, List.append_nil]
      refine LoopTo.last (orc := t38) (lo := noLo) (fun _ _ _ _ h => h) (LoOk2.no _) (go38br ?_) (by simp [out38r])
      rw [rk38br_eq]
      exact aF rfl rfl
    · rw [bits_step h0 h] at hn
      cases hn
  | n + 1, w, l, h, hn, hl => by
    have h0 : w ≠ 0 := by
      rintro rfl
      rw [bits_zero] at hn
      cases hn
    obtain ⟨_, _, hk⟩ := ctz_spec h0 h
    rw [bits_step h0 h] at hn ⊢
    simp only [List.length_cons, Nat.add_right_cancel_iff] at hn
    have e50 := fnS_eq (out := oI []) oI_inj (S50_at h [])
    have step : (tround TT t38 noLo (HSp 38) lp38b (inv38br (rowN l) a b i w)).run = some (.norm, inv38br (rowN (l ++ [64 * i + Go.Lib.ctz 64 w])) a b i ((w &&& (w - 1) : Nat) : Int)) := by
      refine go38br ?_
      rw [rk38br_eq]
      refine aT (ne0 h0) (gStep e50 (aT ?_ (aT (by simp) ?_)))
      · rw [Bool.and_eq_true, decide_eq_true_eq, fits_iff, rowN_len]
        omega
      · rw [next_w h0 h, num38 hi hk]
        have e : rowN (l ++ [64 * i + Go.Lib.ctz 64 w]) = rowN l ++ [[.int .i64 ((64 * i + Go.Lib.ctz 64 w : Nat) : Int)]] := by simp [rowN]
        rw [inv38br, e, List.length_append]
        rfl
    have ih := loop38r (a := a) (b := b) hi n (w &&& (w - 1)) (l ++ [64 * i + Go.Lib.ctz 64 w]) (drop_lt h) hn (by simp only [List.length_append, List.length_singleton]; omega)
    rw [List.append_assoc, List.singleton_append] at ih
    rw [List.map_cons]
    exact LoopTo.more (orc := t38) (lo := noLo) (fun _ _ _ _ h => h) (LoOk2.no _) step ih
theorem loop38n {a b : Int} {i : Nat} (hi : i ≤ 1) {w : Nat} (h : w < 2 ^ 64) :
    if bitsL 64 w = [] then LoopTo TT t38.runs (HSp 38) lp38b (inv38bn a b i w) (out38n (st2 a b) (jn i) ())
    else LoopTo TT t38.runs (HSp 38) lp38b (inv38bn a b i w) (out38r (st2 a b) (jn i) (rowN ((bitsL 64 w).map (64 * i + ·)))) := by
  by_cases h0 : w = 0
  · subst h0
    rw [if_pos (bits_zero 64)]
    refine LoopTo.last (orc := t38) (lo := noLo) (fun _ _ _ _ h => h) (LoOk2.no _) (go38bn ?_) (by simp [out38n])
    rw [rk38bn_eq]
    exact aF rfl rfl
  · obtain ⟨_, _, hk⟩ := ctz_spec h0 h
    have hb := bits_len (x := w &&& (w - 1))
    rw [bits_step h0 h, if_neg (by simp)]
    have e50 := fnS_eq (out := oI []) oI_inj (S50_at h [])
    have step : (tround TT t38 noLo (HSp 38) lp38b (inv38bn a b i w)).run = some (.norm, inv38br (rowN [64 * i + Go.Lib.ctz 64 w]) a b i ((w &&& (w - 1) : Nat) : Int)) := by
      refine go38bn ?_
      rw [rk38bn_eq]
      refine aT (ne0 h0) (gStep e50 ?_)
      rw [next_w h0 h, num38 hi hk]
      rfl
    have ih := loop38r (a := a) (b := b) hi _ (w &&& (w - 1)) [64 * i + Go.Lib.ctz 64 w] (drop_lt h) rfl (by simp only [List.length_singleton]; omega)
    rw [List.map_cons]
    exact LoopTo.more (orc := t38) (lo := noLo) (fun _ _ _ _ h => h) (LoOk2.no _) step ih
end Go.Eng
end

/- Sets of runs: the program's List. -/
section
namespace Go.Eng
open Go
set_option maxRecDepth 100000
set_option linter.unusedSimpArgs false

theorem lo38b_ok : LoOk2 TT t38.runs (HSp 38) lo38b lp38 := by
  refine LoOk2.of lp38 fun b hb st r h => ?_
  have hl : loops lp38 = [lp38b] := by kernel_rfl
  rw [hl] at hb
  obtain rfl := List.mem_singleton.1 hb
  rw [show firstRegion lp38b = 5 from by kernel_rfl] at h
  exact tlo2_ok h
theorem lo38_ok : ∀ c, Go.Proofs.Tryd.f38.body = some c → LoOk2 TT t38.runs (HSp 38) lo38 c := by
  intro c hc
  refine LoOk2.of c fun b hb st r h => ?_
  have hcc : c = codeOf Go.Proofs.Tryd.f38 := by unfold codeOf; rw [hc]; rfl
  have hl : loops c = [lp38] := by rw [hcc]; kernel_rfl
  rw [hl] at hb
  obtain rfl := List.mem_singleton.1 hb
  rw [show firstRegion lp38 = 3 from by kernel_rfl] at h
  exact tlo2_ok h
theorem t38_ok : TOk PP t38 := TOk.cons (COk.spec (out := fun _ G => oI G) c50) TOk.nil
theorem c38 : COk PP 38 R38 := tok_fn (H := HSp 38) TT_ok t38_ok Go.Proofs.Tryd.func38 (by kernel_rfl) lo38_ok
attribute [local irreducible] fnS loS tround
theorem go38n {a b : Int} {i : Int} {o} (h : (tround TT t38 lo38b (HSp 38) lp38 (inv38n a b i)).ev = o) : (tround TT t38 lo38b (HSp 38) lp38 (inv38n a b i)).run = o := by
  rw [Tr.ev_run] at h
  exact h
theorem go38r {r : Row} {a b : Int} {i : Int} {o} (h : (tround TT t38 lo38b (HSp 38) lp38 (inv38r r a b i)).ev = o) : (tround TT t38 lo38b (HSp 38) lp38 (inv38r r a b i)).run = o := by
  rw [Tr.ev_run] at h
  exact h
theorem end38n {a b : Int} : LoopTo TT t38.runs (HSp 38) lp38 (inv38n a b 2) (out38x ()) :=
  LoopTo.last (orc := t38) (lo := lo38b) (fun _ _ _ _ h => h) lo38b_ok (go38n (rk38n2_eq a b)) (by simp [out38x])
theorem end38r {r : Row} {a b : Int} : LoopTo TT t38.runs (HSp 38) lp38 (inv38r r a b 2) (out38y r) :=
  LoopTo.last (orc := t38) (lo := lo38b) (fun _ _ _ _ h => h) lo38b_ok (go38r (rk38r2_eq r a b)) (by simp [out38y])
theorem mid38n {a : Int} {y : Nat} (h : y < 2 ^ 64) :
    if bitsL 64 y = [] then LoopTo TT t38.runs (HSp 38) lp38 (inv38n a y 1) (out38x ()) else LoopTo TT t38.runs (HSp 38) lp38 (inv38n a y 1) (out38y (rowN ((bitsL 64 y).map (64 + ·)))) := by
  have hl := loop38n (a := a) (b := y) (i := 1) (Nat.le_refl 1) h
  by_cases h0 : bitsL 64 y = []
  · rw [if_pos h0] at hl ⊢
    refine LoopTo.more (orc := t38) (lo := lo38b) (fun _ _ _ _ h => h) lo38b_ok (go38n ?_) (end38n (a := a) (b := y))
    exact (rk38n1_eq a y).trans (aT (loS_yes (o1 := out38n (st2 a y) (jn 1)) out38n_inj hl) (gStep (loS_eq (out := out38n (st2 a y) (jn 1)) out38n_inj hl) rfl))
  · rw [if_neg h0] at hl ⊢
    refine LoopTo.more (orc := t38) (lo := lo38b) (fun _ _ _ _ h => h) lo38b_ok (go38n ?_) (end38r (a := a) (b := y))
    exact (rk38n1_eq a y).trans (aF (loS_no (o1 := out38n (st2 a y) (jn 1)) hl out38_no) (gStep (loS_eq (out := out38r (st2 a y) (jn 1)) out38r_inj hl) rfl))
theorem mid38r {a : Int} {y : Nat} (h : y < 2 ^ 64) (l : List Nat) (hl2 : l.length ≤ 64) :
    LoopTo TT t38.runs (HSp 38) lp38 (inv38r (rowN l) a y 1) (out38y (rowN (l ++ (bitsL 64 y).map (64 + ·)))) := by
  have hb := bits_len (x := y)
  have hl := loop38r (a := a) (b := y) (i := 1) (Nat.le_refl 1) _ y l h rfl (by omega)
  refine LoopTo.more (orc := t38) (lo := lo38b) (fun _ _ _ _ h => h) lo38b_ok (go38r ?_) (end38r (a := a) (b := y))
  exact (rk38r1_eq _ a y).trans (aF (loS_no (o1 := out38n (st2 a y) (jn 1)) hl out38_no) (gStep (loS_eq (out := out38r (st2 a y) (jn 1)) out38r_inj hl) rfl))
theorem loop38 {s : Nat × Nat} (h : fitB s) :
    if numsB s = [] then LoopTo TT t38.runs (HSp 38) lp38 (inv38n s.1 s.2 0) (out38x ()) else LoopTo TT t38.runs (HSp 38) lp38 (inv38n s.1 s.2 0) (out38y (rowN (numsB s))) := by
  obtain ⟨x, y⟩ := s
  obtain ⟨hx, hy⟩ := h
  simp only at hx hy
  have hl := loop38n (a := x) (b := y) (i := 0) (Nat.zero_le 1) hx
  have e0 : (bitsL 64 x).map (64 * 0 + ·) = bitsL 64 x := by
    rw [show (fun k => 64 * 0 + k) = id from funext fun k => by simp]
    exact List.map_id _
  rw [e0] at hl
  have hb := bits_len (x := x)
  by_cases h0 : bitsL 64 x = []
  · rw [if_pos h0] at hl
    have en : numsB (x, y) = (bitsL 64 y).map (64 + ·) := by
      unfold numsB
      rw [show bitsL 64 (x, y).1 = [] from h0]
      rfl
    have hm := mid38n (a := x) hy
    have step : (tround TT t38 lo38b (HSp 38) lp38 (inv38n x y 0)).run = some (.norm, inv38n x y 1) := go38n ((rk38n0_eq x y).trans (aT (loS_yes (o1 := out38n (st2 x y) (jn 0)) out38n_inj hl) (gStep (loS_eq (out := out38n (st2 x y) (jn 0)) out38n_inj hl) rfl)))
    by_cases h1 : bitsL 64 y = []
    · rw [if_pos h1] at hm
      rw [if_pos (by rw [en, h1]; rfl)]
      exact LoopTo.more (orc := t38) (lo := lo38b) (fun _ _ _ _ h => h) lo38b_ok step hm
    · rw [if_neg h1] at hm
      rw [if_neg (by rw [en]; simpa using h1), en]
      exact LoopTo.more (orc := t38) (lo := lo38b) (fun _ _ _ _ h => h) lo38b_ok step hm
  · rw [if_neg h0] at hl
    have en : numsB (x, y) = bitsL 64 x ++ (bitsL 64 y).map (64 + ·) := rfl
    rw [if_neg (by rw [en]; simp [h0]), en]
    have step : (tround TT t38 lo38b (HSp 38) lp38 (inv38n x y 0)).run = some (.norm, inv38r (rowN (bitsL 64 x)) x y 1) := go38n ((rk38n0_eq x y).trans (aF (loS_no (o1 := out38n (st2 x y) (jn 0)) hl out38_no) (gStep (loS_eq (out := out38r (st2 x y) (jn 0)) out38r_inj hl) rfl)))
    exact LoopTo.more (orc := t38) (lo := lo38b) (fun _ _ _ _ h => h) lo38b_ok step (mid38r hy _ hb)
def oNlI (G : List Ent) (_ : Unit) : AV × List Ent := (.dat (.list .nil 0 []), G)
def oOwI (G : List Ent) (zr : Row) : AV × List Ent := (.own true 1 zr, G)
theorem f38_run {s : Nat × Nat} (h : fitB s) : R38 [st2 s.1 s.2] [] = if numsB s = [] then some (oNlI [] ()) else some (oOwI [] (rowN (numsB s))) := by
  have key : ∀ o, (f38t s.1 s.2).ev = o → R38 [st2 s.1 s.2] [] = o := fun o h => by
    rw [Tr.ev_run] at h
    exact h
  refine key _ ?_
  rw [f38t_eq]
  have hl := loop38 h
  by_cases h0 : numsB s = []
  · rw [if_pos h0] at hl ⊢
    exact aT (loS_yes (o1 := out38x) out38x_inj hl) (gStep (loS_eq (out := out38x) out38x_inj hl) rfl)
  · rw [if_neg h0] at hl ⊢
    refine aF (loS_no (o1 := out38x) hl out38xy_no) (gStep (loS_eq (out := out38y) out38y_inj hl) (aT ?_ rfl))
    rw [whole_iff]
    exact ⟨rfl, rfl⟩
end Go.Eng
end

/- Sets of runs: the range over runs, for the program's Text, as trees. -/
section
namespace Go.Eng
open Go
set_option maxRecDepth 100000

def oS (G : List Ent) (zs : ByteArray) : AV × List Ent := (.dat (.str zs), G)
noncomputable def S27 : Spec := sItoaA
noncomputable def S28 : Spec := sJoin
noncomputable def P38 := pureS R38
def rfOf : Code → Option (Code × Code)
  | .seq a b => (rfOf a).orElse fun _ => rfOf b
  | .block _ b => rfOf b
  | .rangeFunc _ _ asg body => some (asg, body)
  | _ => none
noncomputable def asg12 : Code := ((rfOf (codeOf Go.Proofs.Tryd.f12)).getD (.skip, .skip)).1
noncomputable def bd12 : Code := ((rfOf (codeOf Go.Proofs.Tryd.f12)).getD (.skip, .skip)).2
def HSt (f : Nat) : Nat → List Nat := match f with
  | 12 => hOfS [(3000000, [10040003, 10040007])]
  | 37 => hOfS [(2, [0, 3, 7, 8, 9]), (1000002, [0, 3])]
  | _ => fun _ => []
noncomputable def lr12 (s : LS) : Ent := .lrec s (mkT 0 31 [(3, .ptr (.glob 1) 0), (7, .fn 37 [.ptr (.glob 0) 0])]) [8] asg12 bd12
noncomputable def G12 (a b : Int) (c1 : AV) : List Ent := [.obj [.dat (.int .u64 a), .dat (.int .u64 b)], .obj [c1], lr12 .ready]
noncomputable def tI : TOrc := tCons 27 (fun a G => tspec (oS G) (S27 a G)) tNone
noncomputable def y12 (a : List AV) (G : List Ent) : Tr (AV × List Ent) := tyld TT tI (fun _ => noLo) [] 2 a G
noncomputable def Y12 (a : List AV) (G : List Ent) : Option (AV × List Ent) := (y12 a G).run
noncomputable def yn12 (a b m n : Int) : Tr (AV × List Ent) := y12 [.agg [jn m, jn n]] (G12 a b (.dat (.list .nil 0 [])))
noncomputable def yr12 (a b : Int) (l : Row) (m n : Int) : Tr (AV × List Ent) := y12 [.agg [jn m, jn n]] (G12 a b (.rowc .excl 1 l))
def oYl (G : List Ent) (l : Row) : AV × List Ent := (.dat (.bool true), G.set 1 (.obj [.rowc .excl 1 l]))
noncomputable def t37 : TOrc := tCons 38 (fun a G => tspec2 (oNlI G) (oOwI G) (P38 a G)) (tCons (yB + 2) (fun a G => tspec (oYl G) (Y12 a G)) tNone)
noncomputable def lp37 : Code := lpOf (codeOf Go.Proofs.Tryd.f37) 0
noncomputable def inv37 (c1 : AV) (a b m n : Int) (l : Row) (i : Int) : St := ⟨mkT 0 49 [(0, .yld 2), (3, .ptr (.loc 0) 0), (7, .sh false 1 1 0 l.length), (8, jn (l.length : Nat)), (9, jn i)], ⟨[some (.obj [jn m, jn n]), some (.row .excl 1 l)], G12 a b c1, 0⟩⟩
noncomputable def rk37n (a b m n : Int) (l : Row) (i : Int) : Tr (Ex × St) := tround TT t37 noLo (HSt 37) lp37 (inv37 (.dat (.list .nil 0 [])) a b m n l i)
noncomputable def rk37r (r : Row) (a b m n : Int) (l : Row) (i : Int) : Tr (Ex × St) := tround TT t37 noLo (HSt 37) lp37 (inv37 (.rowc .excl 1 r) a b m n l i)
end Go.Eng
end

/- Sets of runs: the body of Text's range puts a word behind the words. -/
section
namespace Go.Eng
open Go
set_option maxRecDepth 100000
set_option linter.unusedSimpArgs false

theorem yn12_eq (a b m n : Int) : (yn12 a b m n).ev =
  (rGet (fnS (fun (zs : ByteArray) => ((AV.dat (D.str zs)), [(Ent.obj [(AV.dat (D.int IntKind.u64 a)), (AV.dat (D.int IntKind.u64 b))]), (Ent.obj [(AV.dat (D.list LK.nil 0 ([] : Row)))]), (Ent.lrec LS.busy (mkT 0 31 [(3, (AV.ptr (Ref.glob 1) 0)), (7, (AV.fn 37 [(AV.ptr (Ref.glob 0) 0)]))]) [8] asg12 bd12)])) (S27 [(AV.dat (D.int IntKind.i64 m))] [(Ent.obj [(AV.dat (D.int IntKind.u64 a)), (AV.dat (D.int IntKind.u64 b))]), (Ent.obj [(AV.dat (D.list LK.nil 0 ([] : Row)))]), (Ent.lrec LS.busy (mkT 0 31 [(3, (AV.ptr (Ref.glob 1) 0)), (7, (AV.fn 37 [(AV.ptr (Ref.glob 0) 0)]))]) [8] asg12 bd12)])) fun x1 =>
   (rAsk (decide (n > (1 : Int)))
    (rGet (fnS (fun (zs : ByteArray) => ((AV.dat (D.str zs)), [(Ent.obj [(AV.dat (D.int IntKind.u64 a)), (AV.dat (D.int IntKind.u64 b))]), (Ent.obj [(AV.dat (D.list LK.nil 0 ([] : Row)))]), (Ent.lrec LS.busy (mkT 0 31 [(3, (AV.ptr (Ref.glob 1) 0)), (7, (AV.fn 37 [(AV.ptr (Ref.glob 0) 0)]))]) [8] asg12 bd12)])) (S27 [(AV.dat (D.int IntKind.i64 (IntKind.wrap IntKind.i64 ((IntKind.wrap IntKind.i64 (m + n)) - (1 : Int)))))] [(Ent.obj [(AV.dat (D.int IntKind.u64 a)), (AV.dat (D.int IntKind.u64 b))]), (Ent.obj [(AV.dat (D.list LK.nil 0 ([] : Row)))]), (Ent.lrec LS.busy (mkT 0 31 [(3, (AV.ptr (Ref.glob 1) 0)), (7, (AV.fn 37 [(AV.ptr (Ref.glob 0) 0)]))]) [8] asg12 bd12)])) fun x2 =>
     (rAsk (Nat.ble (1 + (ByteArray.size x2)) 9223372036854775807)
      (rAsk (Nat.ble ((ByteArray.size x1) + (ByteArray.size ((ByteArray.mk (List.toArray [45])) ++ x2))) 9223372036854775807)
       (some ((AV.dat (D.bool true)), [(Ent.obj [(AV.dat (D.int IntKind.u64 a)), (AV.dat (D.int IntKind.u64 b))]), (Ent.obj [(AV.rowc Mode.excl 1 [[(D.str (x1 ++ ((ByteArray.mk (List.toArray [45])) ++ x2)))]])]), (Ent.lrec LS.ready (mkT 0 31 [(3, (AV.ptr (Ref.glob 1) 0)), (7, (AV.fn 37 [(AV.ptr (Ref.glob 0) 0)]))]) [8] asg12 bd12)]))
       none
      )
      none
     )
    )
    (some ((AV.dat (D.bool true)), [(Ent.obj [(AV.dat (D.int IntKind.u64 a)), (AV.dat (D.int IntKind.u64 b))]), (Ent.obj [(AV.rowc Mode.excl 1 [[(D.str x1)]])]), (Ent.lrec LS.ready (mkT 0 31 [(3, (AV.ptr (Ref.glob 1) 0)), (7, (AV.fn 37 [(AV.ptr (Ref.glob 0) 0)]))]) [8] asg12 bd12)]))
   )
  )
  := by kernel_rfl
theorem yr12_eq (a b : Int) (l : Row) (m n : Int) : (yr12 a b l m n).ev =
  (rGet (fnS (fun (zs : ByteArray) => ((AV.dat (D.str zs)), [(Ent.obj [(AV.dat (D.int IntKind.u64 a)), (AV.dat (D.int IntKind.u64 b))]), (Ent.obj [(AV.rowc Mode.excl 1 l)]), (Ent.lrec LS.busy (mkT 0 31 [(3, (AV.ptr (Ref.glob 1) 0)), (7, (AV.fn 37 [(AV.ptr (Ref.glob 0) 0)]))]) [8] asg12 bd12)])) (S27 [(AV.dat (D.int IntKind.i64 m))] [(Ent.obj [(AV.dat (D.int IntKind.u64 a)), (AV.dat (D.int IntKind.u64 b))]), (Ent.obj [(AV.rowc Mode.excl 1 l)]), (Ent.lrec LS.busy (mkT 0 31 [(3, (AV.ptr (Ref.glob 1) 0)), (7, (AV.fn 37 [(AV.ptr (Ref.glob 0) 0)]))]) [8] asg12 bd12)])) fun x1 =>
   (rAsk (decide (n > (1 : Int)))
    (rGet (fnS (fun (zs : ByteArray) => ((AV.dat (D.str zs)), [(Ent.obj [(AV.dat (D.int IntKind.u64 a)), (AV.dat (D.int IntKind.u64 b))]), (Ent.obj [(AV.rowc Mode.excl 1 l)]), (Ent.lrec LS.busy (mkT 0 31 [(3, (AV.ptr (Ref.glob 1) 0)), (7, (AV.fn 37 [(AV.ptr (Ref.glob 0) 0)]))]) [8] asg12 bd12)])) (S27 [(AV.dat (D.int IntKind.i64 (IntKind.wrap IntKind.i64 ((IntKind.wrap IntKind.i64 (m + n)) - (1 : Int)))))] [(Ent.obj [(AV.dat (D.int IntKind.u64 a)), (AV.dat (D.int IntKind.u64 b))]), (Ent.obj [(AV.rowc Mode.excl 1 l)]), (Ent.lrec LS.busy (mkT 0 31 [(3, (AV.ptr (Ref.glob 1) 0)), (7, (AV.fn 37 [(AV.ptr (Ref.glob 0) 0)]))]) [8] asg12 bd12)])) fun x2 =>
     (rAsk (Nat.ble (1 + (ByteArray.size x2)) 9223372036854775807)
      (rAsk (Nat.ble ((ByteArray.size x1) + (ByteArray.size ((ByteArray.mk (List.toArray [45])) ++ x2))) 9223372036854775807)
       (rAsk ((decide ((0 + (List.length l)) ≤ (List.length l))) && (fits (TI.mk TK.str 1 16 [(AV.dat (D.str (ByteArray.mk (List.toArray []))))] true) ((List.length l) + 1)))
        (rAsk (true && (decide ((List.length l) = (List.length l))))
         (rAsk (wholeB false 0 ((List.length l) + 1) (List.length (l ++ [[(D.str (x1 ++ ((ByteArray.mk (List.toArray [45])) ++ x2)))]])))
          (some ((AV.dat (D.bool true)), [(Ent.obj [(AV.dat (D.int IntKind.u64 a)), (AV.dat (D.int IntKind.u64 b))]), (Ent.obj [(AV.rowc Mode.excl 1 (l ++ [[(D.str (x1 ++ ((ByteArray.mk (List.toArray [45])) ++ x2)))]]))]), (Ent.lrec LS.ready (mkT 0 31 [(3, (AV.ptr (Ref.glob 1) 0)), (7, (AV.fn 37 [(AV.ptr (Ref.glob 0) 0)]))]) [8] asg12 bd12)]))
          (some ((AV.dat (D.bool true)), [(Ent.obj [(AV.dat (D.int IntKind.u64 a)), (AV.dat (D.int IntKind.u64 b))]), (Ent.obj [(AV.dat (D.list LK.any 1 (List.take ((List.length l) + 1) (List.drop 0 (l ++ [[(D.str (x1 ++ ((ByteArray.mk (List.toArray [45])) ++ x2)))]])))))]), (Ent.lrec LS.ready (mkT 0 31 [(3, (AV.ptr (Ref.glob 1) 0)), (7, (AV.fn 37 [(AV.ptr (Ref.glob 0) 0)]))]) [8] asg12 bd12)]))
         )
         none
        )
        none
       )
       none
      )
      none
     )
    )
    (rAsk ((decide ((0 + (List.length l)) ≤ (List.length l))) && (fits (TI.mk TK.str 1 16 [(AV.dat (D.str (ByteArray.mk (List.toArray []))))] true) ((List.length l) + 1)))
     (rAsk (true && (decide ((List.length l) = (List.length l))))
      (rAsk (wholeB false 0 ((List.length l) + 1) (List.length (l ++ [[(D.str x1)]])))
       (some ((AV.dat (D.bool true)), [(Ent.obj [(AV.dat (D.int IntKind.u64 a)), (AV.dat (D.int IntKind.u64 b))]), (Ent.obj [(AV.rowc Mode.excl 1 (l ++ [[(D.str x1)]]))]), (Ent.lrec LS.ready (mkT 0 31 [(3, (AV.ptr (Ref.glob 1) 0)), (7, (AV.fn 37 [(AV.ptr (Ref.glob 0) 0)]))]) [8] asg12 bd12)]))
       (some ((AV.dat (D.bool true)), [(Ent.obj [(AV.dat (D.int IntKind.u64 a)), (AV.dat (D.int IntKind.u64 b))]), (Ent.obj [(AV.dat (D.list LK.any 1 (List.take ((List.length l) + 1) (List.drop 0 (l ++ [[(D.str x1)]])))))]), (Ent.lrec LS.ready (mkT 0 31 [(3, (AV.ptr (Ref.glob 1) 0)), (7, (AV.fn 37 [(AV.ptr (Ref.glob 0) 0)]))]) [8] asg12 bd12)]))
      )
      none
     )
     none
    )
   )
  )
  := by kernel_rfl
theorem rk37n_eq (a b m n : Int) (l : Row) (i : Int) : (rk37n a b m n l i).ev =
  (rAsk (decide (i < (((List.length l) : Nat) : Int)))
   (rAsk ((decide ((0 : Int) ≤ i)) && (decide (i < (((List.length l) : Nat) : Int))))
    (rGet l[(0 + (Int.toNat i))]? fun x1 =>
     (rGet (List.head? (List.drop 0 x1)) fun x2 =>
      (rAsk (decide (n > (0 : Int)))
       (rGet (D.int? IntKind.i64 x2) fun x3 =>
        (rAsk (x3 == (IntKind.wrap IntKind.i64 (m + n)))
         (some (Ex.norm, (St.mk (mkT 0 49 [(0, (AV.yld 2)), (3, (AV.ptr (Ref.loc 0) 0)), (7, (AV.sh false 1 1 0 (List.length l))), (8, (AV.dat (D.int IntKind.i64 (((List.length l) : Nat) : Int)))), (9, (AV.dat (D.int IntKind.i64 (IntKind.wrap IntKind.i64 (i + (1 : Int))))))]) (Mem.mk [(Option.some (Ent.obj [(AV.dat (D.int IntKind.i64 m)), (AV.dat (D.int IntKind.i64 (IntKind.wrap IntKind.i64 (n + (1 : Int)))))])), (Option.some (Ent.row Mode.excl 1 l))] [(Ent.obj [(AV.dat (D.int IntKind.u64 a)), (AV.dat (D.int IntKind.u64 b))]), (Ent.obj [(AV.dat (D.list LK.nil 0 ([] : Row)))]), (Ent.lrec LS.ready (mkT 0 31 [(3, (AV.ptr (Ref.glob 1) 0)), (7, (AV.fn 37 [(AV.ptr (Ref.glob 0) 0)]))]) [8] asg12 bd12)] 0))))
         (rAsk (decide (n > (0 : Int)))
          (rGet (fnS (fun (l : Row) => ((AV.dat (D.bool true)), [(Ent.obj [(AV.dat (D.int IntKind.u64 a)), (AV.dat (D.int IntKind.u64 b))]), (Ent.obj [(AV.rowc Mode.excl 1 l)]), (Ent.lrec LS.ready (mkT 0 31 [(3, (AV.ptr (Ref.glob 1) 0)), (7, (AV.fn 37 [(AV.ptr (Ref.glob 0) 0)]))]) [8] asg12 bd12)])) (Y12 [(AV.agg [(AV.dat (D.int IntKind.i64 m)), (AV.dat (D.int IntKind.i64 n))])] [(Ent.obj [(AV.dat (D.int IntKind.u64 a)), (AV.dat (D.int IntKind.u64 b))]), (Ent.obj [(AV.dat (D.list LK.nil 0 ([] : Row)))]), (Ent.lrec LS.ready (mkT 0 31 [(3, (AV.ptr (Ref.glob 1) 0)), (7, (AV.fn 37 [(AV.ptr (Ref.glob 0) 0)]))]) [8] asg12 bd12)])) fun x4 =>
           (some (Ex.norm, (St.mk (mkT 0 49 [(0, (AV.yld 2)), (3, (AV.ptr (Ref.loc 0) 0)), (7, (AV.sh false 1 1 0 (List.length l))), (8, (AV.dat (D.int IntKind.i64 (((List.length l) : Nat) : Int)))), (9, (AV.dat (D.int IntKind.i64 (IntKind.wrap IntKind.i64 (i + (1 : Int))))))]) (Mem.mk [(Option.some (Ent.obj [(AV.dat x2), (AV.dat (D.int IntKind.i64 (1 : Int)))])), (Option.some (Ent.row Mode.excl 1 l))] [(Ent.obj [(AV.dat (D.int IntKind.u64 a)), (AV.dat (D.int IntKind.u64 b))]), (Ent.obj [(AV.rowc Mode.excl 1 x4)]), (Ent.lrec LS.ready (mkT 0 31 [(3, (AV.ptr (Ref.glob 1) 0)), (7, (AV.fn 37 [(AV.ptr (Ref.glob 0) 0)]))]) [8] asg12 bd12)] 0))))
          )
          (some (Ex.norm, (St.mk (mkT 0 49 [(0, (AV.yld 2)), (3, (AV.ptr (Ref.loc 0) 0)), (7, (AV.sh false 1 1 0 (List.length l))), (8, (AV.dat (D.int IntKind.i64 (((List.length l) : Nat) : Int)))), (9, (AV.dat (D.int IntKind.i64 (IntKind.wrap IntKind.i64 (i + (1 : Int))))))]) (Mem.mk [(Option.some (Ent.obj [(AV.dat x2), (AV.dat (D.int IntKind.i64 (1 : Int)))])), (Option.some (Ent.row Mode.excl 1 l))] [(Ent.obj [(AV.dat (D.int IntKind.u64 a)), (AV.dat (D.int IntKind.u64 b))]), (Ent.obj [(AV.dat (D.list LK.nil 0 ([] : Row)))]), (Ent.lrec LS.ready (mkT 0 31 [(3, (AV.ptr (Ref.glob 1) 0)), (7, (AV.fn 37 [(AV.ptr (Ref.glob 0) 0)]))]) [8] asg12 bd12)] 0))))
         )
        )
       )
       (rAsk (decide (n > (0 : Int)))
        (rGet (fnS (fun (l : Row) => ((AV.dat (D.bool true)), [(Ent.obj [(AV.dat (D.int IntKind.u64 a)), (AV.dat (D.int IntKind.u64 b))]), (Ent.obj [(AV.rowc Mode.excl 1 l)]), (Ent.lrec LS.ready (mkT 0 31 [(3, (AV.ptr (Ref.glob 1) 0)), (7, (AV.fn 37 [(AV.ptr (Ref.glob 0) 0)]))]) [8] asg12 bd12)])) (Y12 [(AV.agg [(AV.dat (D.int IntKind.i64 m)), (AV.dat (D.int IntKind.i64 n))])] [(Ent.obj [(AV.dat (D.int IntKind.u64 a)), (AV.dat (D.int IntKind.u64 b))]), (Ent.obj [(AV.dat (D.list LK.nil 0 ([] : Row)))]), (Ent.lrec LS.ready (mkT 0 31 [(3, (AV.ptr (Ref.glob 1) 0)), (7, (AV.fn 37 [(AV.ptr (Ref.glob 0) 0)]))]) [8] asg12 bd12)])) fun x5 =>
         (some (Ex.norm, (St.mk (mkT 0 49 [(0, (AV.yld 2)), (3, (AV.ptr (Ref.loc 0) 0)), (7, (AV.sh false 1 1 0 (List.length l))), (8, (AV.dat (D.int IntKind.i64 (((List.length l) : Nat) : Int)))), (9, (AV.dat (D.int IntKind.i64 (IntKind.wrap IntKind.i64 (i + (1 : Int))))))]) (Mem.mk [(Option.some (Ent.obj [(AV.dat x2), (AV.dat (D.int IntKind.i64 (1 : Int)))])), (Option.some (Ent.row Mode.excl 1 l))] [(Ent.obj [(AV.dat (D.int IntKind.u64 a)), (AV.dat (D.int IntKind.u64 b))]), (Ent.obj [(AV.rowc Mode.excl 1 x5)]), (Ent.lrec LS.ready (mkT 0 31 [(3, (AV.ptr (Ref.glob 1) 0)), (7, (AV.fn 37 [(AV.ptr (Ref.glob 0) 0)]))]) [8] asg12 bd12)] 0))))
        )
        (some (Ex.norm, (St.mk (mkT 0 49 [(0, (AV.yld 2)), (3, (AV.ptr (Ref.loc 0) 0)), (7, (AV.sh false 1 1 0 (List.length l))), (8, (AV.dat (D.int IntKind.i64 (((List.length l) : Nat) : Int)))), (9, (AV.dat (D.int IntKind.i64 (IntKind.wrap IntKind.i64 (i + (1 : Int))))))]) (Mem.mk [(Option.some (Ent.obj [(AV.dat x2), (AV.dat (D.int IntKind.i64 (1 : Int)))])), (Option.some (Ent.row Mode.excl 1 l))] [(Ent.obj [(AV.dat (D.int IntKind.u64 a)), (AV.dat (D.int IntKind.u64 b))]), (Ent.obj [(AV.dat (D.list LK.nil 0 ([] : Row)))]), (Ent.lrec LS.ready (mkT 0 31 [(3, (AV.ptr (Ref.glob 1) 0)), (7, (AV.fn 37 [(AV.ptr (Ref.glob 0) 0)]))]) [8] asg12 bd12)] 0))))
       )
      )
     )
    )
    none
   )
   (some ((Ex.exit 0), (St.mk (mkT 0 49 [(0, (AV.yld 2)), (3, (AV.ptr (Ref.loc 0) 0))]) (Mem.mk [(Option.some (Ent.obj [(AV.dat (D.int IntKind.i64 m)), (AV.dat (D.int IntKind.i64 n))]))] [(Ent.obj [(AV.dat (D.int IntKind.u64 a)), (AV.dat (D.int IntKind.u64 b))]), (Ent.obj [(AV.dat (D.list LK.nil 0 ([] : Row)))]), (Ent.lrec LS.ready (mkT 0 31 [(3, (AV.ptr (Ref.glob 1) 0)), (7, (AV.fn 37 [(AV.ptr (Ref.glob 0) 0)]))]) [8] asg12 bd12)] 0))))
  )
  := by kernel_rfl
theorem rk37r_eq (r : Row) (a b m n : Int) (l : Row) (i : Int) : (rk37r r a b m n l i).ev =
  (rAsk (decide (i < (((List.length l) : Nat) : Int)))
   (rAsk ((decide ((0 : Int) ≤ i)) && (decide (i < (((List.length l) : Nat) : Int))))
    (rGet l[(0 + (Int.toNat i))]? fun x1 =>
     (rGet (List.head? (List.drop 0 x1)) fun x2 =>
      (rAsk (decide (n > (0 : Int)))
       (rGet (D.int? IntKind.i64 x2) fun x3 =>
        (rAsk (x3 == (IntKind.wrap IntKind.i64 (m + n)))
         (some (Ex.norm, (St.mk (mkT 0 49 [(0, (AV.yld 2)), (3, (AV.ptr (Ref.loc 0) 0)), (7, (AV.sh false 1 1 0 (List.length l))), (8, (AV.dat (D.int IntKind.i64 (((List.length l) : Nat) : Int)))), (9, (AV.dat (D.int IntKind.i64 (IntKind.wrap IntKind.i64 (i + (1 : Int))))))]) (Mem.mk [(Option.some (Ent.obj [(AV.dat (D.int IntKind.i64 m)), (AV.dat (D.int IntKind.i64 (IntKind.wrap IntKind.i64 (n + (1 : Int)))))])), (Option.some (Ent.row Mode.excl 1 l))] [(Ent.obj [(AV.dat (D.int IntKind.u64 a)), (AV.dat (D.int IntKind.u64 b))]), (Ent.obj [(AV.rowc Mode.excl 1 r)]), (Ent.lrec LS.ready (mkT 0 31 [(3, (AV.ptr (Ref.glob 1) 0)), (7, (AV.fn 37 [(AV.ptr (Ref.glob 0) 0)]))]) [8] asg12 bd12)] 0))))
         (rAsk (decide (n > (0 : Int)))
          (rGet (fnS (fun (l : Row) => ((AV.dat (D.bool true)), [(Ent.obj [(AV.dat (D.int IntKind.u64 a)), (AV.dat (D.int IntKind.u64 b))]), (Ent.obj [(AV.rowc Mode.excl 1 l)]), (Ent.lrec LS.ready (mkT 0 31 [(3, (AV.ptr (Ref.glob 1) 0)), (7, (AV.fn 37 [(AV.ptr (Ref.glob 0) 0)]))]) [8] asg12 bd12)])) (Y12 [(AV.agg [(AV.dat (D.int IntKind.i64 m)), (AV.dat (D.int IntKind.i64 n))])] [(Ent.obj [(AV.dat (D.int IntKind.u64 a)), (AV.dat (D.int IntKind.u64 b))]), (Ent.obj [(AV.rowc Mode.excl 1 r)]), (Ent.lrec LS.ready (mkT 0 31 [(3, (AV.ptr (Ref.glob 1) 0)), (7, (AV.fn 37 [(AV.ptr (Ref.glob 0) 0)]))]) [8] asg12 bd12)])) fun x4 =>
           (some (Ex.norm, (St.mk (mkT 0 49 [(0, (AV.yld 2)), (3, (AV.ptr (Ref.loc 0) 0)), (7, (AV.sh false 1 1 0 (List.length l))), (8, (AV.dat (D.int IntKind.i64 (((List.length l) : Nat) : Int)))), (9, (AV.dat (D.int IntKind.i64 (IntKind.wrap IntKind.i64 (i + (1 : Int))))))]) (Mem.mk [(Option.some (Ent.obj [(AV.dat x2), (AV.dat (D.int IntKind.i64 (1 : Int)))])), (Option.some (Ent.row Mode.excl 1 l))] [(Ent.obj [(AV.dat (D.int IntKind.u64 a)), (AV.dat (D.int IntKind.u64 b))]), (Ent.obj [(AV.rowc Mode.excl 1 x4)]), (Ent.lrec LS.ready (mkT 0 31 [(3, (AV.ptr (Ref.glob 1) 0)), (7, (AV.fn 37 [(AV.ptr (Ref.glob 0) 0)]))]) [8] asg12 bd12)] 0))))
          )
          (some (Ex.norm, (St.mk (mkT 0 49 [(0, (AV.yld 2)), (3, (AV.ptr (Ref.loc 0) 0)), (7, (AV.sh false 1 1 0 (List.length l))), (8, (AV.dat (D.int IntKind.i64 (((List.length l) : Nat) : Int)))), (9, (AV.dat (D.int IntKind.i64 (IntKind.wrap IntKind.i64 (i + (1 : Int))))))]) (Mem.mk [(Option.some (Ent.obj [(AV.dat x2), (AV.dat (D.int IntKind.i64 (1 : Int)))])), (Option.some (Ent.row Mode.excl 1 l))] [(Ent.obj [(AV.dat (D.int IntKind.u64 a)), (AV.dat (D.int IntKind.u64 b))]), (Ent.obj [(AV.rowc Mode.excl 1 r)]), (Ent.lrec LS.ready (mkT 0 31 [(3, (AV.ptr (Ref.glob 1) 0)), (7, (AV.fn 37 [(AV.ptr (Ref.glob 0) 0)]))]) [8] asg12 bd12)] 0))))
         )
        )
       )
       (rAsk (decide (n > (0 : Int)))
        (rGet (fnS (fun (l : Row) => ((AV.dat (D.bool true)), [(Ent.obj [(AV.dat (D.int IntKind.u64 a)), (AV.dat (D.int IntKind.u64 b))]), (Ent.obj [(AV.rowc Mode.excl 1 l)]), (Ent.lrec LS.ready (mkT 0 31 [(3, (AV.ptr (Ref.glob 1) 0)), (7, (AV.fn 37 [(AV.ptr (Ref.glob 0) 0)]))]) [8] asg12 bd12)])) (Y12 [(AV.agg [(AV.dat (D.int IntKind.i64 m)), (AV.dat (D.int IntKind.i64 n))])] [(Ent.obj [(AV.dat (D.int IntKind.u64 a)), (AV.dat (D.int IntKind.u64 b))]), (Ent.obj [(AV.rowc Mode.excl 1 r)]), (Ent.lrec LS.ready (mkT 0 31 [(3, (AV.ptr (Ref.glob 1) 0)), (7, (AV.fn 37 [(AV.ptr (Ref.glob 0) 0)]))]) [8] asg12 bd12)])) fun x5 =>
         (some (Ex.norm, (St.mk (mkT 0 49 [(0, (AV.yld 2)), (3, (AV.ptr (Ref.loc 0) 0)), (7, (AV.sh false 1 1 0 (List.length l))), (8, (AV.dat (D.int IntKind.i64 (((List.length l) : Nat) : Int)))), (9, (AV.dat (D.int IntKind.i64 (IntKind.wrap IntKind.i64 (i + (1 : Int))))))]) (Mem.mk [(Option.some (Ent.obj [(AV.dat x2), (AV.dat (D.int IntKind.i64 (1 : Int)))])), (Option.some (Ent.row Mode.excl 1 l))] [(Ent.obj [(AV.dat (D.int IntKind.u64 a)), (AV.dat (D.int IntKind.u64 b))]), (Ent.obj [(AV.rowc Mode.excl 1 x5)]), (Ent.lrec LS.ready (mkT 0 31 [(3, (AV.ptr (Ref.glob 1) 0)), (7, (AV.fn 37 [(AV.ptr (Ref.glob 0) 0)]))]) [8] asg12 bd12)] 0))))
        )
        (some (Ex.norm, (St.mk (mkT 0 49 [(0, (AV.yld 2)), (3, (AV.ptr (Ref.loc 0) 0)), (7, (AV.sh false 1 1 0 (List.length l))), (8, (AV.dat (D.int IntKind.i64 (((List.length l) : Nat) : Int)))), (9, (AV.dat (D.int IntKind.i64 (IntKind.wrap IntKind.i64 (i + (1 : Int))))))]) (Mem.mk [(Option.some (Ent.obj [(AV.dat x2), (AV.dat (D.int IntKind.i64 (1 : Int)))])), (Option.some (Ent.row Mode.excl 1 l))] [(Ent.obj [(AV.dat (D.int IntKind.u64 a)), (AV.dat (D.int IntKind.u64 b))]), (Ent.obj [(AV.rowc Mode.excl 1 r)]), (Ent.lrec LS.ready (mkT 0 31 [(3, (AV.ptr (Ref.glob 1) 0)), (7, (AV.fn 37 [(AV.ptr (Ref.glob 0) 0)]))]) [8] asg12 bd12)] 0))))
       )
      )
     )
    )
    none
   )
   (some ((Ex.exit 0), (St.mk (mkT 0 49 [(0, (AV.yld 2)), (3, (AV.ptr (Ref.loc 0) 0))]) (Mem.mk [(Option.some (Ent.obj [(AV.dat (D.int IntKind.i64 m)), (AV.dat (D.int IntKind.i64 n))]))] [(Ent.obj [(AV.dat (D.int IntKind.u64 a)), (AV.dat (D.int IntKind.u64 b))]), (Ent.obj [(AV.rowc Mode.excl 1 r)]), (Ent.lrec LS.ready (mkT 0 31 [(3, (AV.ptr (Ref.glob 1) 0)), (7, (AV.fn 37 [(AV.ptr (Ref.glob 0) 0)]))]) [8] asg12 bd12)] 0))))
  )
  := by kernel_rfl

def ba (l : List UInt8) : ByteArray := ⟨l.toArray⟩
theorem ba_sz (l : List UInt8) : (ba l).size = l.length := by simp [ba, ByteArray.size]
theorem ba_list (l : List UInt8) : (ba l).toList = l := by rw [Go.Lib.toList_data]; rfl
theorem ba_of (s : ByteArray) : s = ba s.data.toList := by obtain ⟨⟨l⟩⟩ := s; rfl
theorem ba_app (a b : List UInt8) : ba a ++ ba b = ba (a ++ b) := by
  apply ByteArray.ext
  simp [ba]
theorem mk_ba (l : List UInt8) : ByteArray.mk (List.toArray l) = ba l := rfl
def sRow (l : List (List UInt8)) : Row := l.map fun w => [D.str (ba w)]
theorem sRow_len (l : List (List UInt8)) : (sRow l).length = l.length := by simp [sRow]
theorem oS_inj {G : List Ent} : ∀ x y, oS G x = oS G y → x = y := by intro x y h; simpa [oS] using h
theorem oYl_inj {a b : Int} {c1 : AV} : ∀ x y, oYl (G12 a b c1) x = oYl (G12 a b c1) y → x = y := by
  intro x y h
  simp [oYl, G12] at h
  exact h
theorem S27_at {n : Nat} (h : n ≤ 1000000) (G : List Ent) : S27 [.dat (.int .i64 (n : Nat))] G = some (oS G (ba (Go.Lib.decDigits n))) := by
  simp only [S27, sItoaA]
  rw [if_pos (by omega), Go.Lib.itoa, if_neg (by omega), Int.toNat_natCast]
  rfl
attribute [local irreducible] fnS loS S27
theorem y12n {a b : Int} {m n : Nat} (h1 : 1 ≤ n) (h2 : m + n ≤ 128) :
    Y12 [.agg [jn m, jn n]] (G12 a b (.dat (.list .nil 0 []))) = some (oYl (G12 a b (.dat (.list .nil 0 []))) (sRow [wordN (m, n)])) := by
  show (yn12 a b m n).run = _
  rw [← Tr.ev_run, yn12_eq]
  have d1 := dec_at2 (n := m) (by omega)
  have d2 := dec_at2 (n := m + n - 1) (by omega)
  refine gStep (fnS_eq oS_inj (S27_at (n := m) (by omega) _)) ?_
  by_cases h : n > 1
  · have hw : IntKind.wrap IntKind.i64 ((IntKind.wrap IntKind.i64 (((m : Nat) : Int) + ((n : Nat) : Int))) - (1 : Int)) = ((m + n - 1 : Nat) : Int) := by
      rw [w64 (n := m + n) (by omega) (x := ((m : Nat) : Int) + ((n : Nat) : Int)) (by omega), w64 (n := m + n - 1) (by omega) (x := ((m + n : Nat) : Int) - (1 : Int)) (by omega)]
    rw [hw]
    refine aT (by rw [decide_eq_true_eq]; omega) (gStep (fnS_eq oS_inj (S27_at (n := m + n - 1) (by omega) _)) ?_)
    simp only [mk_ba, ba_app, ba_sz, List.singleton_append, List.length_cons]
    refine aT (Nat.ble_eq_true_of_le (by omega)) (aT (Nat.ble_eq_true_of_le (by omega)) ?_)
    rw [wordN, if_pos (show (m, n).2 > 1 from h)]
    rfl
  · refine aF (by rw [decide_eq_false_iff_not]; omega) ?_
    rw [wordN, if_neg (show ¬ (m, n).2 > 1 from h), List.append_nil]
    rfl
theorem y12r {a b : Int} {m n : Nat} (h1 : 1 ≤ n) (h2 : m + n ≤ 128) (ws : List (List UInt8)) (hw : ws.length ≤ 1000) :
    Y12 [.agg [jn m, jn n]] (G12 a b (.rowc .excl 1 (sRow ws))) = some (oYl (G12 a b (.rowc .excl 1 (sRow ws))) (sRow (ws ++ [wordN (m, n)]))) := by
  show (yr12 a b (sRow ws) m n).run = _
  rw [← Tr.ev_run, yr12_eq]
  have d1 := dec_at2 (n := m) (by omega)
  have d2 := dec_at2 (n := m + n - 1) (by omega)
  have hf : ((decide ((0 + (sRow ws).length) ≤ (sRow ws).length)) && (fits (TI.mk TK.str 1 16 [(AV.dat (D.str (ByteArray.mk (List.toArray []))))] true) ((sRow ws).length + 1))) = true := by
    rw [Nat.zero_add, Bool.and_eq_true, fits_iff, sRow_len]
    exact ⟨decide_eq_true (Nat.le_refl _), by omega, by omega⟩
  have e : sRow (ws ++ [wordN (m, n)]) = sRow ws ++ [[.str (ba (wordN (m, n)))]] := by simp [sRow]
  rw [e]
  refine gStep (fnS_eq oS_inj (S27_at (n := m) (by omega) _)) ?_
  by_cases h : n > 1
  · have hw : IntKind.wrap IntKind.i64 ((IntKind.wrap IntKind.i64 (((m : Nat) : Int) + ((n : Nat) : Int))) - (1 : Int)) = ((m + n - 1 : Nat) : Int) := by
      rw [w64 (n := m + n) (by omega) (x := ((m : Nat) : Int) + ((n : Nat) : Int)) (by omega), w64 (n := m + n - 1) (by omega) (x := ((m + n : Nat) : Int) - (1 : Int)) (by omega)]
    rw [hw]
    refine aT (by rw [decide_eq_true_eq]; omega) (gStep (fnS_eq oS_inj (S27_at (n := m + n - 1) (by omega) _)) ?_)
    rw [show ByteArray.mk (List.toArray [45]) = ba [45] from rfl]
    simp only [ba_app, ba_sz, List.singleton_append, List.length_cons]
    refine aT (Nat.ble_eq_true_of_le (by omega)) (aT (Nat.ble_eq_true_of_le (by omega)) (aT hf (aT (by simp) (aT ?_ ?_))))
    · rw [whole_iff]
      simp
    · rw [wordN, if_pos (show (m, n).2 > 1 from h)]
      rfl
  · refine aF (by rw [decide_eq_false_iff_not]; omega) (aT hf (aT (by simp) (aT ?_ ?_)))
    · rw [whole_iff]
      simp
    · rw [wordN, if_neg (show ¬ (m, n).2 > 1 from h), List.append_nil]
      rfl
end Go.Eng
end

/- Sets of runs: the loop of the range over runs. -/
section
namespace Go.Eng
open Go
set_option maxRecDepth 100000
set_option linter.unusedSimpArgs false

/-- runs that are told, and the one under way -/
def runE : List Nat → Nat × Nat → List (Nat × Nat) × (Nat × Nat)
  | [], r => ([], r)
  | i :: l, r => if r.2 > 0 ∧ i = r.1 + r.2 then runE l (r.1, r.2 + 1) else if r.2 > 0 then (r :: (runE l (i, 1)).1, (runE l (i, 1)).2) else runE l (i, 1)
theorem runE_eq : ∀ (l : List Nat) (r : Nat × Nat), runsN l r = (runE l r).1 ++ (if (runE l r).2.2 > 0 then [(runE l r).2] else [])
  | [], r => by simp [runsN, runE]
  | i :: l, r => by
    unfold runsN runE
    split
    · exact runE_eq l _
    · split
      · rw [runE_eq l (i, 1)]
        rfl
      · exact runE_eq l _
/-- the words so far, in their cell -/
def cW : List (Nat × Nat) → AV
  | [] => .dat (.list .nil 0 [])
  | w :: W => .rowc .excl 1 (sRow ((w :: W).map wordN))
noncomputable def out37 (c1 : AV) (a b : Int) (r : Int × Int) : Ex × St := (.exit 0, ⟨mkT 0 49 [(0, .yld 2), (3, .ptr (.loc 0) 0)], ⟨[some (.obj [jn r.1, jn r.2])], G12 a b c1, 0⟩⟩)
attribute [local irreducible] fnS loS tround Y12
theorem go37 {W : List (Nat × Nat)} {a b m n : Int} {l : Row} {i : Int} {o} (h : (match W with
    | [] => rk37n a b m n l i
    | w :: W => rk37r (sRow ((w :: W).map wordN)) a b m n l i).ev = o) : (tround TT t37 noLo (HSt 37) lp37 (inv37 (cW W) a b m n l i)).run = o := by
  rw [Tr.ev_run] at h
  cases W <;> exact h
theorem rowN_at (pre : List Nat) (k : Nat) (l : List Nat) : (rowN (pre ++ k :: l))[0 + Int.toNat ((pre.length : Nat) : Int)]? = some [.int .i64 (k : Nat)] := by
  rw [Int.toNat_natCast, Nat.zero_add, rowN, List.getElem?_map]
  simp
theorem yld_cW {a b : Int} {W : List (Nat × Nat)} {r : Nat × Nat} (h1 : 1 ≤ r.2) (h2 : r.1 + r.2 ≤ 128) (hW : W.length ≤ 1000) :
    fnS (oYl (G12 a b (cW W))) (Y12 [.agg [jn r.1, jn r.2]] (G12 a b (cW W))) = some (sRow ((W ++ [r]).map wordN)) := by
  cases W with
  | nil => exact fnS_eq (out := oYl (G12 a b (cW []))) oYl_inj (y12n h1 h2)
  | cons w W =>
    have := y12r (a := a) (b := b) h1 h2 ((w :: W).map wordN) (by rw [List.length_map]; exact hW)
    rw [← List.map_singleton (f := wordN) (a := (r.1, r.2)), ← List.map_append] at this
    exact fnS_eq (out := oYl (G12 a b (cW (w :: W)))) oYl_inj this
theorem cW_app (W : List (Nat × Nat)) (r : Nat × Nat) : cW (W ++ [r]) = .rowc .excl 1 (sRow ((W ++ [r]).map wordN)) := by
  cases W <;> rfl
theorem step37 {a b : Int} (W : List (Nat × Nat)) (r : Nat × Nat) (pre : List Nat) (k : Nat) (l : List Nat) (hW : W.length ≤ 1000) (hr : r.1 + r.2 ≤ 128) (hk : k < 128) (hl : (pre ++ k :: l).length ≤ 1000) :
    (tround TT t37 noLo (HSt 37) lp37 (inv37 (cW W) a b r.1 r.2 (rowN (pre ++ k :: l)) pre.length)).run = some (.norm,
      if r.2 > 0 ∧ k = r.1 + r.2 then inv37 (cW W) a b r.1 ((r.2 + 1 : Nat) : Int) (rowN (pre ++ k :: l)) ((pre.length + 1 : Nat) : Int)
      else if r.2 > 0 then inv37 (cW (W ++ [r])) a b k 1 (rowN (pre ++ k :: l)) ((pre.length + 1 : Nat) : Int)
      else inv37 (cW W) a b k 1 (rowN (pre ++ k :: l)) ((pre.length + 1 : Nat) : Int)) := by
  have hlen : (rowN (pre ++ k :: l)).length = pre.length + l.length + 1 := by rw [rowN_len, List.length_append, List.length_cons]; omega
  rw [List.length_append, List.length_cons] at hl
  have hb : ((decide ((0 : Int) ≤ ((pre.length : Nat) : Int))) && (decide (((pre.length : Nat) : Int) < (((rowN (pre ++ k :: l)).length : Nat) : Int)))) = true := by
    rw [Bool.and_eq_true, decide_eq_true_eq, decide_eq_true_eq]
    omega
  have a0 : decide (((pre.length : Nat) : Int) < (((rowN (pre ++ k :: l)).length : Nat) : Int)) = true := by rw [decide_eq_true_eq]; omega
  have hat := rowN_at pre k l
  have hwi : IntKind.wrap IntKind.i64 (((pre.length : Nat) : Int) + 1) = ((pre.length + 1 : Nat) : Int) := w64 (by omega) (by omega)
  have hwr : IntKind.wrap IntKind.i64 (((r.1 : Nat) : Int) + ((r.2 : Nat) : Int)) = ((r.1 + r.2 : Nat) : Int) := w64 (by omega) (by omega)
  have hw1 : IntKind.wrap IntKind.i64 (((r.2 : Nat) : Int) + 1) = ((r.2 + 1 : Nat) : Int) := w64 (by omega) (by omega)
  have ye := fun h1 : r.2 > 0 => yld_cW (a := a) (b := b) (W := W) (r := r) h1 hr hW
  rw [cW_app]
  cases W with
  | nil =>
      refine go37 ?_
      simp only
      rw [rk37n_eq, hwi, hwr]
      refine aT a0 (aT hb (gStep hat (gStep rfl ?_)))
      by_cases h0 : r.2 > 0
      · refine aT (by rw [decide_eq_true_eq]; omega) (gStep (x := ((k : Nat) : Int)) rfl ?_)
        by_cases hk : k = r.1 + r.2
        · refine aT (by rw [beq_iff_eq, hk]) ?_
          rw [if_pos ⟨h0, hk⟩, hw1]
          rfl
        · refine aF (by rw [beq_eq_false_iff_ne]; omega) (aT (by rw [decide_eq_true_eq]; omega) (gStep (ye h0) ?_))
          rw [if_neg (fun h => hk h.2), if_pos h0]
          rfl
      · refine aF (by rw [decide_eq_false_iff_not]; omega) (aF (by rw [decide_eq_false_iff_not]; omega) ?_)
        rw [if_neg (fun h => h0 h.1), if_neg h0]
        rfl
  | cons w W =>
      refine go37 ?_
      simp only
      rw [rk37r_eq, hwi, hwr]
      refine aT a0 (aT hb (gStep hat (gStep rfl ?_)))
      by_cases h0 : r.2 > 0
      · refine aT (by rw [decide_eq_true_eq]; omega) (gStep (x := ((k : Nat) : Int)) rfl ?_)
        by_cases hk : k = r.1 + r.2
        · refine aT (by rw [beq_iff_eq, hk]) ?_
          rw [if_pos ⟨h0, hk⟩, hw1]
          rfl
        · refine aF (by rw [beq_eq_false_iff_ne]; omega) (aT (by rw [decide_eq_true_eq]; omega) (gStep (ye h0) ?_))
          rw [if_neg (fun h => hk h.2), if_pos h0]
          rfl
      · refine aF (by rw [decide_eq_false_iff_not]; omega) (aF (by rw [decide_eq_false_iff_not]; omega) ?_)
        rw [if_neg (fun h => h0 h.1), if_neg h0]
        rfl
end Go.Eng
end

/- Sets of runs: the loop of the range over runs, and what it comes to. -/
section
namespace Go.Eng
open Go
set_option maxRecDepth 100000
set_option linter.unusedSimpArgs false

attribute [local irreducible] fnS loS tround Y12
theorem last37 {a b : Int} (W : List (Nat × Nat)) (r : Nat × Nat) (l : List Nat) : LoopTo TT t37.runs (HSt 37) lp37 (inv37 (cW W) a b r.1 r.2 (rowN l) l.length) (out37 (cW W) a b (r.1, r.2)) := by
  refine LoopTo.last (orc := t37) (lo := noLo) (fun _ _ _ _ h => h) (LoOk2.no _) (go37 ?_) (by simp [out37])
  have a0 : decide (((l.length : Nat) : Int) < (((rowN l).length : Nat) : Int)) = false := by rw [decide_eq_false_iff_not, rowN_len]; omega
  cases W with
  | nil =>
    simp only
    rw [rk37n_eq]
    exact aF a0 rfl
  | cons w W =>
    simp only
    rw [rk37r_eq]
    exact aF a0 rfl
theorem loop37 {a b : Int} : ∀ (rest pre : List Nat) (r : Nat × Nat) (W : List (Nat × Nat)), (∀ k ∈ rest, k < 128) → r.1 + r.2 ≤ 128 → (pre ++ rest).length ≤ 1000 → W.length + rest.length ≤ 1000 →
    LoopTo TT t37.runs (HSt 37) lp37 (inv37 (cW W) a b r.1 r.2 (rowN (pre ++ rest)) pre.length) (out37 (cW (W ++ (runE rest r).1)) a b ((runE rest r).2.1, (runE rest r).2.2))
  | [], pre, r, W, _, _, _, _ => by
    rw [runE, List.append_nil, List.append_nil]
    exact last37 W r pre
  | k :: rest, pre, r, W, hk, hr, hl, hW => by
    rw [List.length_cons] at hW
    have hk1 := hk k (by simp)
    have step := step37 (a := a) (b := b) W r pre k rest (by omega) hr hk1 hl
    have e : pre ++ k :: rest = (pre ++ [k]) ++ rest := by simp
    have el : List.length (pre ++ [k]) = pre.length + 1 := by simp
    unfold runE
    split at step
    · rename_i h0
      rw [if_pos h0]
      have ih := loop37 (a := a) (b := b) rest (pre ++ [k]) (r.1, r.2 + 1) W (fun j hj => hk j (by simp [hj])) (by simp only; omega) (by rw [← e]; exact hl) (by omega)
      rw [← e, el] at ih
      exact LoopTo.more (orc := t37) (lo := noLo) (fun _ _ _ _ h => h) (LoOk2.no _) step ih
    · rename_i h0
      rw [if_neg h0]
      split at step
      · rename_i h1
        rw [if_pos h1]
        have ih := loop37 (a := a) (b := b) rest (pre ++ [k]) (k, 1) (W ++ [r]) (fun j hj => hk j (by simp [hj])) (by simp only; omega) (by rw [← e]; exact hl) (by rw [List.length_append, List.length_singleton]; omega)
        rw [← e, el, List.append_assoc, List.singleton_append] at ih
        exact LoopTo.more (orc := t37) (lo := noLo) (fun _ _ _ _ h => h) (LoOk2.no _) step ih
      · rename_i h1
        rw [if_neg h1]
        have ih := loop37 (a := a) (b := b) rest (pre ++ [k]) (k, 1) W (fun j hj => hk j (by simp [hj])) (by simp only; omega) (by rw [← e]; exact hl) (by omega)
        rw [← e, el] at ih
        exact LoopTo.more (orc := t37) (lo := noLo) (fun _ _ _ _ h => h) (LoOk2.no _) step ih
end Go.Eng
end

/- Sets of runs: the range over runs as a function, as a tree. -/
section
namespace Go.Eng
open Go
set_option maxRecDepth 100000

def argAB (G : List Ent) : Int × Int := match G with
  | .obj [.dat (.int .u64 a), .dat (.int .u64 b)] :: _ => (a, b)
  | _ => (0, 0)
noncomputable def out37p (a b : Int) (p : AV × Int × Int) : Ex × St := out37 p.1 a b p.2
noncomputable def lo37 (n : Nat) (st : St) : Tr (Ex × St) := match n with
  | 2 => tlo TT t37.runs (HSt 37) lp37 (out37p (argAB st.mem.G).1 (argAB st.mem.G).2) st
  | _ => .fail
noncomputable def f37t (a b : Int) : Tr (AV × List Ent) := tfn TT t37 lo37 Go.Proofs.Tryd.f37 [.yld 2, .ptr (.glob 0) 0] (G12 a b (.dat (.list .nil 0 [])))
noncomputable def rk37z (a b : Int) : Tr (Ex × St) := tround TT t37 noLo (HSt 37) lp37 ⟨mkT 0 49 [(0, .yld 2), (3, .ptr (.loc 0) 0), (7, .dat (.list .nil 0 [])), (8, jn 0), (9, jn 0)], ⟨[some (.obj [jn 0, jn 0])], G12 a b (.dat (.list .nil 0 [])), 0⟩⟩
noncomputable def R37 (a : List AV) (G : List Ent) : Option (AV × List Ent) := (tfn TT t37 lo37 Go.Proofs.Tryd.f37 a G).run
end Go.Eng
end

/- Sets of runs: the range over runs as a function. -/
section
namespace Go.Eng
open Go
set_option maxRecDepth 100000
set_option linter.unusedSimpArgs false

theorem rk37z_eq (a b : Int) : (rk37z a b).ev =
  (some ((Ex.exit 0), (St.mk (mkT 0 49 [(0, (AV.yld 2)), (3, (AV.ptr (Ref.loc 0) 0))]) (Mem.mk [(Option.some (Ent.obj [(AV.dat (D.int IntKind.i64 (0 : Int))), (AV.dat (D.int IntKind.i64 (0 : Int)))]))] [(Ent.obj [(AV.dat (D.int IntKind.u64 a)), (AV.dat (D.int IntKind.u64 b))]), (Ent.obj [(AV.dat (D.list LK.nil 0 ([] : Row)))]), (Ent.lrec LS.ready (mkT 0 31 [(3, (AV.ptr (Ref.glob 1) 0)), (7, (AV.fn 37 [(AV.ptr (Ref.glob 0) 0)]))]) [8] asg12 bd12)] 0))))
  := by kernel_rfl
theorem f37t_eq (a b : Int) : (f37t a b).ev =
  (rAsk (Option.isSome (fnS (fun (x : Unit) => ((AV.dat (D.list LK.nil 0 ([] : Row))), [(Ent.obj [(AV.dat (D.int IntKind.u64 a)), (AV.dat (D.int IntKind.u64 b))]), (Ent.obj [(AV.dat (D.list LK.nil 0 ([] : Row)))]), (Ent.lrec LS.ready (mkT 0 31 [(3, (AV.ptr (Ref.glob 1) 0)), (7, (AV.fn 37 [(AV.ptr (Ref.glob 0) 0)]))]) [8] asg12 bd12)])) (P38 [(AV.agg [(AV.dat (D.int IntKind.u64 a)), (AV.dat (D.int IntKind.u64 b))])] [(Ent.obj [(AV.dat (D.int IntKind.u64 a)), (AV.dat (D.int IntKind.u64 b))]), (Ent.obj [(AV.dat (D.list LK.nil 0 ([] : Row)))]), (Ent.lrec LS.ready (mkT 0 31 [(3, (AV.ptr (Ref.glob 1) 0)), (7, (AV.fn 37 [(AV.ptr (Ref.glob 0) 0)]))]) [8] asg12 bd12)])))
   (rGet (fnS (fun (x : Unit) => ((AV.dat (D.list LK.nil 0 ([] : Row))), [(Ent.obj [(AV.dat (D.int IntKind.u64 a)), (AV.dat (D.int IntKind.u64 b))]), (Ent.obj [(AV.dat (D.list LK.nil 0 ([] : Row)))]), (Ent.lrec LS.ready (mkT 0 31 [(3, (AV.ptr (Ref.glob 1) 0)), (7, (AV.fn 37 [(AV.ptr (Ref.glob 0) 0)]))]) [8] asg12 bd12)])) (P38 [(AV.agg [(AV.dat (D.int IntKind.u64 a)), (AV.dat (D.int IntKind.u64 b))])] [(Ent.obj [(AV.dat (D.int IntKind.u64 a)), (AV.dat (D.int IntKind.u64 b))]), (Ent.obj [(AV.dat (D.list LK.nil 0 ([] : Row)))]), (Ent.lrec LS.ready (mkT 0 31 [(3, (AV.ptr (Ref.glob 1) 0)), (7, (AV.fn 37 [(AV.ptr (Ref.glob 0) 0)]))]) [8] asg12 bd12)])) fun _ =>
    (rGet (loS TT (TOrc.runs t37) (HSt 37) lp37 (out37p a b) (St.mk (mkT 0 49 [(0, (AV.yld 2)), (3, (AV.ptr (Ref.loc 0) 0)), (7, (AV.dat (D.list LK.nil 0 ([] : Row)))), (8, (AV.dat (D.int IntKind.i64 (0 : Int)))), (9, (AV.dat (D.int IntKind.i64 (0 : Int))))]) (Mem.mk [(Option.some (Ent.obj [(AV.dat (D.int IntKind.i64 (0 : Int))), (AV.dat (D.int IntKind.i64 (0 : Int)))]))] [(Ent.obj [(AV.dat (D.int IntKind.u64 a)), (AV.dat (D.int IntKind.u64 b))]), (Ent.obj [(AV.dat (D.list LK.nil 0 ([] : Row)))]), (Ent.lrec LS.ready (mkT 0 31 [(3, (AV.ptr (Ref.glob 1) 0)), (7, (AV.fn 37 [(AV.ptr (Ref.glob 0) 0)]))]) [8] asg12 bd12)] 0))) fun x2 =>
     (rAsk (decide (x2.2.2 > (0 : Int)))
      (rGet (fnS (fun (l : Row) => ((AV.dat (D.bool true)), [(Ent.obj [(AV.dat (D.int IntKind.u64 a)), (AV.dat (D.int IntKind.u64 b))]), (Ent.obj [(AV.rowc Mode.excl 1 l)]), (Ent.lrec LS.ready (mkT 0 31 [(3, (AV.ptr (Ref.glob 1) 0)), (7, (AV.fn 37 [(AV.ptr (Ref.glob 0) 0)]))]) [8] asg12 bd12)])) (Y12 [(AV.agg [(AV.dat (D.int IntKind.i64 x2.2.1)), (AV.dat (D.int IntKind.i64 x2.2.2))])] [(Ent.obj [(AV.dat (D.int IntKind.u64 a)), (AV.dat (D.int IntKind.u64 b))]), (Ent.obj [x2.1]), (Ent.lrec LS.ready (mkT 0 31 [(3, (AV.ptr (Ref.glob 1) 0)), (7, (AV.fn 37 [(AV.ptr (Ref.glob 0) 0)]))]) [8] asg12 bd12)])) fun x3 =>
       (some ((AV.tup []), [(Ent.obj [(AV.dat (D.int IntKind.u64 a)), (AV.dat (D.int IntKind.u64 b))]), (Ent.obj [(AV.rowc Mode.excl 1 x3)]), (Ent.lrec LS.ready (mkT 0 31 [(3, (AV.ptr (Ref.glob 1) 0)), (7, (AV.fn 37 [(AV.ptr (Ref.glob 0) 0)]))]) [8] asg12 bd12)]))
      )
      (some ((AV.tup []), [(Ent.obj [(AV.dat (D.int IntKind.u64 a)), (AV.dat (D.int IntKind.u64 b))]), (Ent.obj [x2.1]), (Ent.lrec LS.ready (mkT 0 31 [(3, (AV.ptr (Ref.glob 1) 0)), (7, (AV.fn 37 [(AV.ptr (Ref.glob 0) 0)]))]) [8] asg12 bd12)]))
     )
    )
   )
   (rGet (fnS (fun (zr : Row) => ((AV.own true 1 zr), [(Ent.obj [(AV.dat (D.int IntKind.u64 a)), (AV.dat (D.int IntKind.u64 b))]), (Ent.obj [(AV.dat (D.list LK.nil 0 ([] : Row)))]), (Ent.lrec LS.ready (mkT 0 31 [(3, (AV.ptr (Ref.glob 1) 0)), (7, (AV.fn 37 [(AV.ptr (Ref.glob 0) 0)]))]) [8] asg12 bd12)])) (P38 [(AV.agg [(AV.dat (D.int IntKind.u64 a)), (AV.dat (D.int IntKind.u64 b))])] [(Ent.obj [(AV.dat (D.int IntKind.u64 a)), (AV.dat (D.int IntKind.u64 b))]), (Ent.obj [(AV.dat (D.list LK.nil 0 ([] : Row)))]), (Ent.lrec LS.ready (mkT 0 31 [(3, (AV.ptr (Ref.glob 1) 0)), (7, (AV.fn 37 [(AV.ptr (Ref.glob 0) 0)]))]) [8] asg12 bd12)])) fun x4 =>
    (rGet (loS TT (TOrc.runs t37) (HSt 37) lp37 (out37p a b) (St.mk (mkT 0 49 [(0, (AV.yld 2)), (3, (AV.ptr (Ref.loc 0) 0)), (7, (AV.sh false 1 1 0 (List.length x4))), (8, (AV.dat (D.int IntKind.i64 (((List.length x4) : Nat) : Int)))), (9, (AV.dat (D.int IntKind.i64 (0 : Int))))]) (Mem.mk [(Option.some (Ent.obj [(AV.dat (D.int IntKind.i64 (0 : Int))), (AV.dat (D.int IntKind.i64 (0 : Int)))])), (Option.some (Ent.row Mode.excl 1 x4))] [(Ent.obj [(AV.dat (D.int IntKind.u64 a)), (AV.dat (D.int IntKind.u64 b))]), (Ent.obj [(AV.dat (D.list LK.nil 0 ([] : Row)))]), (Ent.lrec LS.ready (mkT 0 31 [(3, (AV.ptr (Ref.glob 1) 0)), (7, (AV.fn 37 [(AV.ptr (Ref.glob 0) 0)]))]) [8] asg12 bd12)] 0))) fun x5 =>
     (rAsk (decide (x5.2.2 > (0 : Int)))
      (rGet (fnS (fun (l : Row) => ((AV.dat (D.bool true)), [(Ent.obj [(AV.dat (D.int IntKind.u64 a)), (AV.dat (D.int IntKind.u64 b))]), (Ent.obj [(AV.rowc Mode.excl 1 l)]), (Ent.lrec LS.ready (mkT 0 31 [(3, (AV.ptr (Ref.glob 1) 0)), (7, (AV.fn 37 [(AV.ptr (Ref.glob 0) 0)]))]) [8] asg12 bd12)])) (Y12 [(AV.agg [(AV.dat (D.int IntKind.i64 x5.2.1)), (AV.dat (D.int IntKind.i64 x5.2.2))])] [(Ent.obj [(AV.dat (D.int IntKind.u64 a)), (AV.dat (D.int IntKind.u64 b))]), (Ent.obj [x5.1]), (Ent.lrec LS.ready (mkT 0 31 [(3, (AV.ptr (Ref.glob 1) 0)), (7, (AV.fn 37 [(AV.ptr (Ref.glob 0) 0)]))]) [8] asg12 bd12)])) fun x6 =>
       (some ((AV.tup []), [(Ent.obj [(AV.dat (D.int IntKind.u64 a)), (AV.dat (D.int IntKind.u64 b))]), (Ent.obj [(AV.rowc Mode.excl 1 x6)]), (Ent.lrec LS.ready (mkT 0 31 [(3, (AV.ptr (Ref.glob 1) 0)), (7, (AV.fn 37 [(AV.ptr (Ref.glob 0) 0)]))]) [8] asg12 bd12)]))
      )
      (some ((AV.tup []), [(Ent.obj [(AV.dat (D.int IntKind.u64 a)), (AV.dat (D.int IntKind.u64 b))]), (Ent.obj [x5.1]), (Ent.lrec LS.ready (mkT 0 31 [(3, (AV.ptr (Ref.glob 1) 0)), (7, (AV.fn 37 [(AV.ptr (Ref.glob 0) 0)]))]) [8] asg12 bd12)]))
     )
    )
   )
  )
  := by kernel_rfl
theorem out37p_inj {a b : Int} : ∀ x y, out37p a b x = out37p a b y → x = y := by
  rintro ⟨c, m, n⟩ ⟨d, m', n'⟩ h
  simp [out37p, out37, G12, jn] at h
  obtain ⟨⟨rfl, rfl⟩, rfl⟩ := h
  rfl
theorem oNlI_inj {G : List Ent} : ∀ x y, oNlI G x = oNlI G y → x = y := fun _ _ _ => rfl
theorem oOwI_inj {G : List Ent} : ∀ x y, oOwI G x = oOwI G y → x = y := by intro x y h; simpa [oOwI] using h
theorem oNlI_no {G : List Ent} {y : Row} : ∀ x, oNlI G x ≠ oOwI G y := fun x h => by simp [oNlI, oOwI] at h
theorem p38 {s : Nat × Nat} (h : fitB s) (G : List Ent) : P38 [st2 s.1 s.2] G = if numsB s = [] then some (oNlI G ()) else some (oOwI G (rowN (numsB s))) := by
  have q := f38_run h
  unfold P38
  split
  · rename_i h0
    rw [if_pos h0] at q
    exact pureS_eq rfl q rfl
  · rename_i h0
    rw [if_neg h0] at q
    exact pureS_eq rfl q rfl
theorem runE_len : ∀ (l : List Nat) (r : Nat × Nat), (runE l r).1.length ≤ l.length
  | [], _ => Nat.le_refl _
  | i :: l, r => by
    unfold runE
    split
    · have := runE_len l (r.1, r.2 + 1)
      rw [List.length_cons]; omega
    · split
      · have := runE_len l (i, 1)
        simp only [List.length_cons]; omega
      · have := runE_len l (i, 1)
        rw [List.length_cons]; omega
theorem nums_len (s : Nat × Nat) : (numsB s).length ≤ 128 := by
  rw [nums_eq]
  have := List.length_filter_le (hasB s) (List.range 128)
  rw [List.length_range] at this
  exact this
attribute [local irreducible] fnS loS tround Y12 P38
theorem f37_run {s : Nat × Nat} (h : fitB s) : R37 [.yld 2, .ptr (.glob 0) 0] (G12 s.1 s.2 (.dat (.list .nil 0 []))) = some (.tup [], G12 s.1 s.2 (cW (runsB s))) := by
  have key : ∀ o, (f37t s.1 s.2).ev = o → R37 [.yld 2, .ptr (.glob 0) 0] (G12 s.1 s.2 (.dat (.list .nil 0 []))) = o := fun o h => by
    rw [Tr.ev_run] at h
    exact h
  refine key _ ?_
  rw [f37t_eq]
  have e38 := p38 h (G12 s.1 s.2 (.dat (.list .nil 0 [])))
  by_cases h0 : numsB s = []
  · rw [if_pos h0] at e38
    have er : runsB s = [] := by
      unfold runsB
      rw [h0]
      rfl
    rw [er]
    have hl : LoopTo TT t37.runs (HSt 37) lp37 ⟨mkT 0 49 [(0, .yld 2), (3, .ptr (.loc 0) 0), (7, .dat (.list .nil 0 [])), (8, jn 0), (9, jn 0)], ⟨[some (.obj [jn 0, jn 0])], G12 s.1 s.2 (.dat (.list .nil 0 [])), 0⟩⟩ (out37p s.1 s.2 (.dat (.list .nil 0 []), 0, 0)) := by
      refine LoopTo.last (orc := t37) (lo := noLo) (fun _ _ _ _ h => h) (LoOk2.no _) ?_ (by simp [out37p, out37])
      show (rk37z s.1 s.2).run = _
      rw [← Tr.ev_run, rk37z_eq]
      rfl
    exact aT (fnS_yes (o1 := oNlI (G12 s.1 s.2 (.dat (.list .nil 0 [])))) oNlI_inj e38) (gStep (fnS_eq (out := oNlI (G12 s.1 s.2 (.dat (.list .nil 0 [])))) oNlI_inj e38) (gStep (loS_eq (out := out37p s.1 s.2) out37p_inj hl) (aF rfl rfl)))
  · rw [if_neg h0] at e38
    have hn := nums_len s
    have he := runE_len (numsB s) (0, 0)
    have hl0 := loop37 (a := s.1) (b := s.2) (numsB s) [] (0, 0) [] (fun k hk => (mem_nums.1 hk).1) (by decide) (by simp only [List.nil_append]; omega) (by simp only [List.length_nil]; omega)
    rw [List.nil_append, List.nil_append] at hl0
    have hl : LoopTo TT t37.runs (HSt 37) lp37 (inv37 (cW []) s.1 s.2 0 0 (rowN (numsB s)) 0) (out37p s.1 s.2 (cW (runE (numsB s) (0, 0)).1, ((runE (numsB s) (0, 0)).2.1, (runE (numsB s) (0, 0)).2.2))) := hl0
    have er : runsB s = (runE (numsB s) (0, 0)).1 ++ (if (runE (numsB s) (0, 0)).2.2 > 0 then [(runE (numsB s) (0, 0)).2] else []) := runE_eq _ _
    refine aF (fnS_no e38 oNlI_no) (gStep (fnS_eq (out := oOwI (G12 s.1 s.2 (.dat (.list .nil 0 [])))) oOwI_inj e38) (gStep (loS_eq (out := out37p s.1 s.2) out37p_inj hl) ?_))
    by_cases hr : (runE (numsB s) (0, 0)).2.2 > 0
    · rw [if_pos hr] at er
      have hle := runs_le (s := s) (r := (runE (numsB s) (0, 0)).2) (by rw [er]; simp)
      refine aT (by rw [decide_eq_true_eq]; simp only; omega) (gStep (yld_cW (a := s.1) (b := s.2) hle.1 hle.2 (by omega)) ?_)
      rw [er, cW_app]
      rfl
    · rw [if_neg hr, List.append_nil] at er
      refine aF (by rw [decide_eq_false_iff_not]; simp only; omega) ?_
      rw [er]
      rfl
end Go.Eng
end

/- Sets of runs: the program's Text, as a tree. -/
section
namespace Go.Eng
open Go
set_option maxRecDepth 100000

theorem COk.either {P : Program} {f : FuncId} {S T : Spec} (hS : COk P f S) (hT : COk P f T) : COk P f (fun a G => match S a G with
    | some r => some r
    | none => T a G) := by
  intro c xs G vs r G' hs he hv
  cases h : S xs G with
  | some q =>
    simp only [h] at hs
    exact hS c xs G vs r G' (by rw [h, hs]) he hv
  | none =>
    simp only [h] at hs
    exact hT c xs G vs r G' hs he hv
noncomputable def P28n := pureS fun a G => (t1 28 a G).run
/-- strings.Join, of no words too -/
noncomputable def sJoinN : Spec := fun a G => match sJoin a G with
  | some r => some r
  | none => P28n a G
noncomputable def S28n : Spec := sJoinN
theorem c28n : COk PP 28 S28n := COk.either c28 (t1_ok 28).pure
theorem join_nil : ((t1 28 [.dat (.list .nil 0 []), .dat (.str ⟨#[44]⟩)] []).run).map (·.1) = some (.dat (.str ⟨#[]⟩)) := by kernel_rfl
def o37n (G : List Ent) (_ : Unit) : AV × List Ent := (.tup [], G.set 1 (.obj [.dat (.list .nil 0 [])]))
def o37r (G : List Ent) (l : Row) : AV × List Ent := (.tup [], G.set 1 (.obj [.rowc .excl 1 l]))
noncomputable def t12 : TOrc := tCons 37 (fun a G => tspec2 (o37n G) (o37r G) (R37 a G)) (tCons 26 (fun a G => t1 26 a G) (tCons 28 (fun a G => tspec (oS G) (S28n a G)) tNone))
noncomputable def f12t (a b : Int) : Tr (AV × List Ent) := tfnR TT t12 noLo (HSt 12 3000000) Go.Proofs.Tryd.f12 [st2 a b] []
noncomputable def R12 (a : List AV) (G : List Ent) : Option (AV × List Ent) := (tfnR TT t12 noLo (HSt 12 3000000) Go.Proofs.Tryd.f12 a G).run
end Go.Eng
end

/- Sets of runs: the program's Text is textB. -/
section
namespace Go.Eng
open Go
set_option maxRecDepth 100000
set_option linter.unusedSimpArgs false

theorem f12t_eq (a b : Int) : (f12t a b).ev =
  (rAsk (Option.isSome (fnS (fun (x : Unit) => ((AV.tup []), [(Ent.obj [(AV.dat (D.int IntKind.u64 a)), (AV.dat (D.int IntKind.u64 b))]), (Ent.obj [(AV.dat (D.list LK.nil 0 ([] : Row)))]), (Ent.lrec LS.ready (mkT 0 31 [(3, (AV.ptr (Ref.glob 1) 0)), (7, (AV.fn 37 [(AV.ptr (Ref.glob 0) 0)]))]) [8] asg12 bd12)])) (R37 [(AV.yld 2), (AV.ptr (Ref.glob 0) 0)] [(Ent.obj [(AV.dat (D.int IntKind.u64 a)), (AV.dat (D.int IntKind.u64 b))]), (Ent.obj [(AV.dat (D.list LK.nil 0 ([] : Row)))]), (Ent.lrec LS.ready (mkT 0 31 [(3, (AV.ptr (Ref.glob 1) 0)), (7, (AV.fn 37 [(AV.ptr (Ref.glob 0) 0)]))]) [8] asg12 bd12)])))
   (rGet (fnS (fun (x : Unit) => ((AV.tup []), [(Ent.obj [(AV.dat (D.int IntKind.u64 a)), (AV.dat (D.int IntKind.u64 b))]), (Ent.obj [(AV.dat (D.list LK.nil 0 ([] : Row)))]), (Ent.lrec LS.ready (mkT 0 31 [(3, (AV.ptr (Ref.glob 1) 0)), (7, (AV.fn 37 [(AV.ptr (Ref.glob 0) 0)]))]) [8] asg12 bd12)])) (R37 [(AV.yld 2), (AV.ptr (Ref.glob 0) 0)] [(Ent.obj [(AV.dat (D.int IntKind.u64 a)), (AV.dat (D.int IntKind.u64 b))]), (Ent.obj [(AV.dat (D.list LK.nil 0 ([] : Row)))]), (Ent.lrec LS.ready (mkT 0 31 [(3, (AV.ptr (Ref.glob 1) 0)), (7, (AV.fn 37 [(AV.ptr (Ref.glob 0) 0)]))]) [8] asg12 bd12)])) fun _ =>
    (rGet (fnS (fun (zs : ByteArray) => ((AV.dat (D.str zs)), [(Ent.obj [(AV.dat (D.int IntKind.u64 a)), (AV.dat (D.int IntKind.u64 b))]), (Ent.obj [(AV.dat (D.list LK.nil 0 ([] : Row)))]), Ent.gone])) (S28n [(AV.dat (D.list LK.nil 0 ([] : Row))), (AV.dat (D.str (ByteArray.mk (List.toArray [44]))))] [(Ent.obj [(AV.dat (D.int IntKind.u64 a)), (AV.dat (D.int IntKind.u64 b))]), (Ent.obj [(AV.dat (D.list LK.nil 0 ([] : Row)))]), Ent.gone])) fun x2 =>
     (some ((AV.dat (D.str x2)), [(Ent.obj [(AV.dat (D.int IntKind.u64 a)), (AV.dat (D.int IntKind.u64 b))]), (Ent.obj [(AV.dat (D.list LK.nil 0 ([] : Row)))]), Ent.gone]))
    )
   )
   (rGet (fnS (fun (l : Row) => ((AV.tup []), [(Ent.obj [(AV.dat (D.int IntKind.u64 a)), (AV.dat (D.int IntKind.u64 b))]), (Ent.obj [(AV.rowc Mode.excl 1 l)]), (Ent.lrec LS.ready (mkT 0 31 [(3, (AV.ptr (Ref.glob 1) 0)), (7, (AV.fn 37 [(AV.ptr (Ref.glob 0) 0)]))]) [8] asg12 bd12)])) (R37 [(AV.yld 2), (AV.ptr (Ref.glob 0) 0)] [(Ent.obj [(AV.dat (D.int IntKind.u64 a)), (AV.dat (D.int IntKind.u64 b))]), (Ent.obj [(AV.dat (D.list LK.nil 0 ([] : Row)))]), (Ent.lrec LS.ready (mkT 0 31 [(3, (AV.ptr (Ref.glob 1) 0)), (7, (AV.fn 37 [(AV.ptr (Ref.glob 0) 0)]))]) [8] asg12 bd12)])) fun x3 =>
    (rGet (fnS (fun (zs : ByteArray) => ((AV.dat (D.str zs)), [(Ent.obj [(AV.dat (D.int IntKind.u64 a)), (AV.dat (D.int IntKind.u64 b))]), (Ent.obj [(AV.rowc Mode.own 1 x3)]), Ent.gone])) (S28n [(AV.dat (D.list LK.any 1 (List.take (List.length x3) (List.drop 0 x3)))), (AV.dat (D.str (ByteArray.mk (List.toArray [44]))))] [(Ent.obj [(AV.dat (D.int IntKind.u64 a)), (AV.dat (D.int IntKind.u64 b))]), (Ent.obj [(AV.rowc Mode.own 1 x3)]), Ent.gone])) fun x4 =>
     (some ((AV.dat (D.str x4)), [(Ent.obj [(AV.dat (D.int IntKind.u64 a)), (AV.dat (D.int IntKind.u64 b))]), (Ent.obj [(AV.rowc Mode.own 1 x3)]), Ent.gone]))
    )
   )
  )
  := by kernel_rfl
theorem rowStrs_sRow : ∀ ws : List (List UInt8), rowStrs (sRow ws) = some (ws.map ba)
  | [] => rfl
  | w :: ws => by
    simp only [sRow, List.map_cons, rowStrs]
    rw [show rowStrs (ws.map fun w => [D.str (ba w)]) = some (ws.map ba) from rowStrs_sRow ws]
    rfl
theorem S28_row {w : List UInt8} {ws : List (List UInt8)} (h : ws.length + 1 ≤ 1000) (hl : (Go.Lib.join (w :: ws) [44]).length ≤ 140737488355328) (G : List Ent) :
    S28n [.dat (.list .any 1 (List.take (List.length (sRow (w :: ws))) (List.drop 0 (sRow (w :: ws))))), .dat (.str (ByteArray.mk (List.toArray [44])))] G = some (oS G (ba (Go.Lib.join (w :: ws) [44]))) := by
  rw [List.drop_zero, List.take_length]
  have e1 : ((w :: ws).map ba).map (·.data.toList) = w :: ws := by
    rw [List.map_map]
    exact (List.map_congr_left fun x _ => rfl).trans (List.map_id _)
  have hj : sJoin [.dat (.list .any 1 (sRow (w :: ws))), .dat (.str (ByteArray.mk (List.toArray [44])))] G = some (oS G (ba (Go.Lib.join (w :: ws) [44]))) := by
    simp only [sJoin]
    rw [rowStrs_sRow]
    simp only [List.map_cons] at e1 ⊢
    rw [if_pos]
    · simp only [List.map_cons, e1]
      rfl
    · refine ⟨by simp, by simp only [List.length_cons, List.length_map]; omega, ?_⟩
      simp only [List.map_cons, e1]
      exact hl
  simp only [S28n, sJoinN]
  rw [hj]
theorem S28_nil (G : List Ent) : S28n [.dat (.list .nil 0 []), .dat (.str (ByteArray.mk (List.toArray [44])))] G = some (oS G (ba [])) := by
  have h : ∃ G', (t1 28 [.dat (.list .nil 0 []), .dat (.str ⟨#[44]⟩)] []).run = some (.dat (.str ⟨#[]⟩), G') := by
    have := join_nil
    cases ho : (t1 28 [.dat (.list .nil 0 []), .dat (.str ⟨#[44]⟩)] []).run with
    | none => rw [ho] at this; cases this
    | some r =>
      rw [ho] at this
      simp only [Option.map_some, Option.some.injEq] at this
      exact ⟨r.2, by rw [← this]⟩
  obtain ⟨G', h⟩ := h
  have hp : P28n [.dat (.list .nil 0 []), .dat (.str (ByteArray.mk (List.toArray [44])))] G = some (.dat (.str ⟨#[]⟩), G) := by
    unfold P28n
    exact pureS_eq rfl h rfl
  have hj : sJoin [.dat (.list .nil 0 []), .dat (.str (ByteArray.mk (List.toArray [44])))] G = none := by
    simp [sJoin]
  simp only [S28n, sJoinN]
  rw [hj]
  exact hp
theorem o37n_inj {G : List Ent} : ∀ x y, o37n G x = o37n G y → x = y := fun _ _ _ => rfl
theorem o37r_inj {a b : Int} {c1 : AV} : ∀ x y, o37r (G12 a b c1) x = o37r (G12 a b c1) y → x = y := by
  intro x y h
  simp [o37r, G12] at h
  exact h
theorem o37_no {a b : Int} {c1 : AV} {y : Row} : ∀ x, o37n (G12 a b c1) x ≠ o37r (G12 a b c1) y := fun x h => by simp [o37n, o37r, G12] at h
theorem wordN_len {r : Nat × Nat} (h1 : 1 ≤ r.2) (h2 : r.1 + r.2 ≤ 128) : (wordN r).length ≤ 7 := by
  have d1 := dec_at2 (n := r.1) (by omega)
  have d2 := dec_at2 (n := r.1 + r.2 - 1) (by omega)
  unfold wordN
  rw [List.length_append]
  split
  · rw [List.length_cons]; omega
  · rw [List.length_nil]; omega
theorem runs_num (s : Nat × Nat) : (runsB s).length ≤ 129 := by
  have hn := nums_len s
  have he := runE_len (numsB s) (0, 0)
  have er : runsB s = (runE (numsB s) (0, 0)).1 ++ (if (runE (numsB s) (0, 0)).2.2 > 0 then [(runE (numsB s) (0, 0)).2] else []) := runE_eq _ _
  rw [er, List.length_append]
  split
  · rw [List.length_singleton]; omega
  · rw [List.length_nil]; omega
theorem lens_words : ∀ (rs : List (Nat × Nat)), (∀ r ∈ rs, 1 ≤ r.2 ∧ r.1 + r.2 ≤ 128) → Go.Lib.lens (rs.map wordN) ≤ 7 * rs.length
  | [], _ => by simp [Go.Lib.lens]
  | r :: rs, h => by
    have h0 := h r (by simp)
    have := wordN_len h0.1 h0.2
    have ih := lens_words rs fun q hq => h q (by simp [hq])
    simp only [Go.Lib.lens, List.map_cons, List.sum_cons, List.length_cons] at ih ⊢
    omega
attribute [local irreducible] fnS R37 S28n
theorem q12 {s : Nat × Nat} (h : fitB s) : ∃ G', R12 [st2 s.1 s.2] [] = some (.dat (.str (ba (textB s))), G') := by
  have key : ∀ o, (f12t s.1 s.2).ev = o → R12 [st2 s.1 s.2] [] = o := fun o h => by
    rw [Tr.ev_run] at h
    exact h
  have e37 := f37_run h
  have hnum := runs_num s
  have hle := fun r (hr : r ∈ runsB s) => runs_le (s := s) (r := r) hr
  have hlens := lens_words (runsB s) hle
  unfold textB
  generalize runsB s = rs at e37 hnum hle hlens
  cases rs with
  | nil =>
    have e37' : R37 [.yld 2, .ptr (.glob 0) 0] (G12 s.1 s.2 (.dat (.list .nil 0 []))) = some (o37n (G12 s.1 s.2 (.dat (.list .nil 0 []))) ()) := e37
    refine ⟨[.obj [.dat (.int .u64 s.1), .dat (.int .u64 s.2)], .obj [.dat (.list .nil 0 [])], .gone], key _ ?_⟩
    rw [f12t_eq]
    exact aT (fnS_yes (o1 := o37n (G12 s.1 s.2 (.dat (.list .nil 0 [])))) o37n_inj e37') (gStep (fnS_eq (out := o37n (G12 s.1 s.2 (.dat (.list .nil 0 [])))) o37n_inj e37') (gStep (fnS_eq oS_inj (S28_nil _)) rfl))
  | cons r rs =>
    have e37' : R37 [.yld 2, .ptr (.glob 0) 0] (G12 s.1 s.2 (.dat (.list .nil 0 []))) = some (o37r (G12 s.1 s.2 (.dat (.list .nil 0 []))) (sRow ((r :: rs).map wordN))) := e37
    rw [List.length_cons] at hnum hlens
    have hj : (Go.Lib.join (wordN r :: rs.map wordN) [44]).length ≤ 140737488355328 := by
      rw [Go.Lib.join_length, List.length_map, List.length_singleton]
      rw [List.map_cons] at hlens
      omega
    refine ⟨[.obj [.dat (.int .u64 s.1), .dat (.int .u64 s.2)], .obj [.rowc .own 1 (sRow ((r :: rs).map wordN))], .gone], key _ ?_⟩
    rw [f12t_eq]
    refine aF (fnS_no e37' o37_no) (gStep (fnS_eq (out := o37r (G12 s.1 s.2 (.dat (.list .nil 0 [])))) o37r_inj e37') ?_)
    exact gStep (fnS_eq oS_inj (S28_row (w := wordN r) (ws := rs.map wordN) (by rw [List.length_map]; omega) hj _)) rfl
end Go.Eng
end

/- Sets of runs: the contracts of the program's Text. -/
section
namespace Go.Eng
open Go
set_option maxRecDepth 100000

theorem tI_ok : TOk PP tI := TOk.cons (COk.spec (out := fun _ G => oS G) c27) TOk.nil
theorem cY12 : COk PP (yB + 2) Y12 := tok_yld (H := fun _ => []) TT_ok tI_ok rfl (fun _ => LoOk2.no _) 2
theorem t37_ok : TOk PP t37 := TOk.cons (COk.spec2 (o1 := fun _ G => oNlI G) (o2 := fun _ G => oOwI G) c38.pure) (TOk.cons (COk.spec (out := fun _ G => oYl G) cY12) TOk.nil)
theorem lo37_ok : ∀ c, Go.Proofs.Tryd.f37.body = some c → LoOk2 TT t37.runs (HSt 37) lo37 c := by
  intro c hc
  refine LoOk2.of c fun b hb st r h => ?_
  have hcc : c = codeOf Go.Proofs.Tryd.f37 := by unfold codeOf; rw [hc]; rfl
  have hl : loops c = [lp37] := by rw [hcc]; kernel_rfl
  rw [hl] at hb
  obtain rfl := List.mem_singleton.1 hb
  rw [show firstRegion lp37 = 2 from by kernel_rfl] at h
  exact tlo_ok h
theorem c37 : COk PP 37 R37 := tok_fn (H := HSt 37) TT_ok t37_ok Go.Proofs.Tryd.func37 (by kernel_rfl) lo37_ok
theorem t12_ok : TOk PP t12 := TOk.cons (COk.spec2 (o1 := fun _ G => o37n G) (o2 := fun _ G => o37r G) c37) (TOk.cons (t1_ok 26) (TOk.cons (COk.spec (out := fun _ G => oS G) c28n) TOk.nil))
theorem c12 : COk PP 12 R12 := tok_fnR (H := HSt 12) TT_ok t12_ok Go.Proofs.Tryd.func12 (by kernel_rfl) rfl fun _ _ => LoOk2.no _
end Go.Eng
end

/- Sets of runs: what a word tells, by the program, as a tree. -/
section
namespace Go.Eng
open Go
set_option maxRecDepth 100000

noncomputable def S35 : Spec := sCut1
noncomputable def S36 : Spec := sAtoiA
def oC (G : List Ent) (p : ByteArray × ByteArray × Bool) : AV × List Ent := (.tup [.dat (.str p.1), .dat (.str p.2.1), .dat (.bool p.2.2)], G)
def oAo (G : List Ent) (n : Int) : AV × List Ent := (.tup [jn n, .nili], G)
def oAe (G : List Ent) (n : Int) : AV × List Ent := (.tup [jn n, .err], G)
def oRn (G : List Ent) (p : (Int × Int) × Bool) : AV × List Ent := (.tup [.agg [jn p.1.1, jn p.1.2], .dat (.bool p.2)], G)
noncomputable def t24 : TOrc := tCons 35 (fun a G => tspec (oC G) (S35 a G)) (tCons 36 (fun a G => tspec2 (oAo G) (oAe G) (S36 a G)) tNone)
noncomputable def f24t (s : ByteArray) : Tr (AV × List Ent) := tfn TT t24 noLo Go.Proofs.Tryd.f24 [.dat (.str s)] []
noncomputable def R24 (a : List AV) (G : List Ent) : Option (AV × List Ent) := (tfn TT t24 noLo Go.Proofs.Tryd.f24 a G).run
theorem t24_ok : TOk PP t24 := TOk.cons (COk.spec (out := fun _ G => oC G) c35) (TOk.cons (COk.spec2 (o1 := fun _ G => oAo G) (o2 := fun _ G => oAe G) c36) TOk.nil)
theorem c24 : COk PP 24 R24 := tok_fn (H := fun _ => []) TT_ok t24_ok Go.Proofs.Tryd.func24 (by kernel_rfl) fun _ _ => LoOk2.no _
end Go.Eng
end

/- Sets of runs: what a word tells, by the program. -/
section
namespace Go.Eng
open Go
set_option maxRecDepth 100000
set_option linter.unusedSimpArgs false

theorem f24t_eq (s : ByteArray) : (f24t s).ev =
  (rGet (fnS (fun (p : ByteArray × ByteArray × Bool) => ((AV.tup [(AV.dat (D.str p.1)), (AV.dat (D.str p.2.1)), (AV.dat (D.bool p.2.2))]), [])) (S35 [(AV.dat (D.str s)), (AV.dat (D.str (ByteArray.mk (List.toArray [45]))))] [])) fun x1 =>
   (rAsk (Option.isSome (fnS (fun (n : Int) => ((AV.tup [(AV.dat (D.int IntKind.i64 n)), AV.nili]), [])) (S36 [(AV.dat (D.str x1.1))] [])))
    (rGet (fnS (fun (n : Int) => ((AV.tup [(AV.dat (D.int IntKind.i64 n)), AV.nili]), [])) (S36 [(AV.dat (D.str x1.1))] [])) fun x2 =>
     (rAsk (!x1.2.2)
      (some ((AV.tup [(AV.agg [(AV.dat (D.int IntKind.i64 x2)), (AV.dat (D.int IntKind.i64 (1 : Int)))]), (AV.dat (D.bool true))]), []))
      (rAsk (Option.isSome (fnS (fun (n : Int) => ((AV.tup [(AV.dat (D.int IntKind.i64 n)), AV.nili]), [])) (S36 [(AV.dat (D.str x1.2.1))] [])))
       (rGet (fnS (fun (n : Int) => ((AV.tup [(AV.dat (D.int IntKind.i64 n)), AV.nili]), [])) (S36 [(AV.dat (D.str x1.2.1))] [])) fun x3 =>
        (rAsk (decide (x3 ≥ (128 : Int)))
         (some ((AV.tup [(AV.agg [(AV.dat (D.int IntKind.i64 (0 : Int))), (AV.dat (D.int IntKind.i64 (0 : Int)))]), (AV.dat (D.bool false))]), []))
         (rAsk (decide (x2 < (0 : Int)))
          (some ((AV.tup [(AV.agg [(AV.dat (D.int IntKind.i64 (0 : Int))), (AV.dat (D.int IntKind.i64 (0 : Int)))]), (AV.dat (D.bool false))]), []))
          (rAsk (decide (x2 > x3))
           (some ((AV.tup [(AV.agg [(AV.dat (D.int IntKind.i64 (0 : Int))), (AV.dat (D.int IntKind.i64 (0 : Int)))]), (AV.dat (D.bool false))]), []))
           (some ((AV.tup [(AV.agg [(AV.dat (D.int IntKind.i64 x2)), (AV.dat (D.int IntKind.i64 (IntKind.wrap IntKind.i64 ((IntKind.wrap IntKind.i64 (x3 - x2)) + (1 : Int)))))]), (AV.dat (D.bool true))]), []))
          )
         )
        )
       )
       (rGet (fnS (fun (n : Int) => ((AV.tup [(AV.dat (D.int IntKind.i64 n)), AV.err]), [])) (S36 [(AV.dat (D.str x1.2.1))] [])) fun _ =>
        (some ((AV.tup [(AV.agg [(AV.dat (D.int IntKind.i64 (0 : Int))), (AV.dat (D.int IntKind.i64 (0 : Int)))]), (AV.dat (D.bool false))]), []))
       )
      )
     )
    )
    (rGet (fnS (fun (n : Int) => ((AV.tup [(AV.dat (D.int IntKind.i64 n)), AV.err]), [])) (S36 [(AV.dat (D.str x1.1))] [])) fun _ =>
     (some ((AV.tup [(AV.agg [(AV.dat (D.int IntKind.i64 (0 : Int))), (AV.dat (D.int IntKind.i64 (0 : Int)))]), (AV.dat (D.bool false))]), []))
    )
   )
  )
  := by kernel_rfl
theorem cut1_len (b : UInt8) : ∀ l : List UInt8, (cut1 b l).1.length ≤ l.length ∧ (cut1 b l).2.1.length ≤ l.length
  | [] => by simp [cut1]
  | c :: l => by
    have := cut1_len b l
    unfold cut1
    split <;> simp only [List.length_cons, List.length_nil] <;> omega
theorem S35_at {w : List UInt8} (h : w.length ≤ 2000) (G : List Ent) : S35 [.dat (.str (ba w)), .dat (.str (ByteArray.mk (List.toArray [45])))] G = some (oC G (ba (cut1 45 w).1, ba (cut1 45 w).2.1, (cut1 45 w).2.2)) := by
  simp only [S35, sCut1]
  rw [if_pos (by rw [ba_sz]; omega)]
  rfl
theorem S36_ok {d : List UInt8} {n : Int} (h : d.length ≤ 2000) (e : Go.Lib.atoiAll d = .ok n) (G : List Ent) : S36 [.dat (.str (ba d))] G = some (oAo G n) := by
  simp only [S36, sAtoiA]
  rw [if_pos (by rw [ba_sz]; omega)]
  rw [show (ba d).data.toList = d from rfl, e]
  rfl
theorem S36_no {d : List UInt8} (h : d.length ≤ 2000) (e : ∀ n, Go.Lib.atoiAll d ≠ .ok n) (G : List Ent) : ∃ n, S36 [.dat (.str (ba d))] G = some (oAe G n) := by
  simp only [S36, sAtoiA]
  rw [if_pos (by rw [ba_sz]; omega)]
  rw [show (ba d).data.toList = d from rfl]
  cases ha : Go.Lib.atoiAll d with
  | ok n => exact absurd ha (e n)
  | range => exact ⟨_, rfl⟩
  | _ => exact ⟨_, rfl⟩
theorem oC_inj {G : List Ent} : ∀ x y, oC G x = oC G y → x = y := by
  rintro ⟨a, b, c⟩ ⟨d, e, f⟩ h
  simp [oC] at h
  obtain ⟨rfl, rfl, rfl⟩ := h
  rfl
theorem oAo_inj {G : List Ent} : ∀ x y, oAo G x = oAo G y → x = y := by intro x y h; simpa [oAo, jn] using h
theorem oAe_inj {G : List Ent} : ∀ x y, oAe G x = oAe G y → x = y := by intro x y h; simpa [oAe, jn] using h
theorem oAo_no {G : List Ent} {n : Int} : ∀ x, oAo G x ≠ oAe G n := by intro x h; simp [oAo, oAe] at h
def rnOf (o : Option (Int × Int)) : (Int × Int) × Bool := match o with
  | some p => (p, true)
  | none => ((0, 0), false)
attribute [local irreducible] fnS S35 S36
theorem f24_run {w : List UInt8} (h : w.length ≤ 2000) : R24 [.dat (.str (ba w))] [] = some (oRn [] (rnOf (runW w))) := by
  have key : ∀ o, (f24t (ba w)).ev = o → R24 [.dat (.str (ba w))] [] = o := fun o h => by
    rw [Tr.ev_run] at h
    exact h
  refine key _ ?_
  rw [f24t_eq]
  have hl := cut1_len 45 w
  refine gStep (fnS_eq (out := oC []) oC_inj (S35_at h [])) ?_
  unfold runW
  generalize cut1 45 w = p at hl
  obtain ⟨x, y, more⟩ := p
  simp only at hl ⊢
  have bad : (∀ n, Go.Lib.atoiAll x ≠ .ok n) → ∃ n, S36 [.dat (.str (ba x))] [] = some (oAe [] n) := fun e => S36_no (by omega) e []
  cases hx : Go.Lib.atoiAll x with
  | ok m =>
    have ex := S36_ok (by omega) hx []
    refine aT (fnS_yes (o1 := oAo []) oAo_inj ex) (gStep (fnS_eq (out := oAo []) oAo_inj ex) ?_)
    cases more with
    | false => exact aT rfl rfl
    | true =>
      refine aF rfl ?_
      simp only [if_true]
      cases hy : Go.Lib.atoiAll y with
      | ok z =>
        have ey := S36_ok (by omega) hy []
        refine aT (fnS_yes (o1 := oAo []) oAo_inj ey) (gStep (fnS_eq (out := oAo []) oAo_inj ey) ?_)
        simp only
        by_cases c1 : 128 ≤ z
        · rw [if_pos (.inl c1)]; exact aT (decide_eq_true c1) rfl
        refine aF (decide_eq_false c1) ?_
        by_cases c2 : m < 0
        · rw [if_pos (.inr (.inl c2))]; exact aT (decide_eq_true c2) rfl
        refine aF (decide_eq_false c2) ?_
        by_cases c3 : z < m
        · rw [if_pos (.inr (.inr c3))]; exact aT (decide_eq_true c3) rfl
        refine aF (decide_eq_false c3) ?_
        rw [if_neg (by omega), w64 (n := (z - m).toNat) (by omega) (x := z - m) (by omega), w64 (n := (z - m).toNat + 1) (by omega) (x := (((z - m).toNat : Nat) : Int) + 1) (by omega), show (((z - m).toNat + 1 : Nat) : Int) = z - m + 1 by omega]
        rfl
      | range =>
        obtain ⟨n, ey⟩ := S36_no (d := y) (by omega) (by rw [hy]; simp) []
        exact aF (fnS_no ey oAo_no) (gStep (fnS_eq (out := oAe []) oAe_inj ey) rfl)
      | _ =>
        obtain ⟨n, ey⟩ := S36_no (d := y) (by omega) (by rw [hy]; simp) []
        exact aF (fnS_no ey oAo_no) (gStep (fnS_eq (out := oAe []) oAe_inj ey) rfl)
  | range =>
    obtain ⟨n, ex⟩ := bad (by rw [hx]; simp)
    exact aF (fnS_no ex oAo_no) (gStep (fnS_eq (out := oAe []) oAe_inj ex) rfl)
  | _ =>
    obtain ⟨n, ex⟩ := bad (by rw [hx]; simp)
    exact aF (fnS_no ex oAo_no) (gStep (fnS_eq (out := oAe []) oAe_inj ex) rfl)
end Go.Eng
end

/- Sets of runs: the program's Parse, as trees. -/
section
namespace Go.Eng
open Go
set_option maxRecDepth 100000

noncomputable def tlo3 {A B C : Type} (T : Tab) (oo : Orc) (H : Nat → List Nat) (b : Code) (o1 : A → Ex × St) (o2 : B → Ex × St) (o3 : C → Ex × St) (st : St) : Tr (Ex × St) :=
  .ask (loS T oo H b o1 (tidy (H (firstRegion b)) st)).isSome (tlo T oo H b o1 st) (tlo2 T oo H b o2 o3 st)
theorem tlo3_ok {A B C : Type} {T : Tab} {oo : Orc} {H : Nat → List Nat} {b : Code} {o1 : A → Ex × St} {o2 : B → Ex × St} {o3 : C → Ex × St} {st : St} {r : Ex × St} (h : (tlo3 T oo H b o1 o2 o3 st).run = some r) : ∃ K, exec T oo K H (.loop b) st = some r := by
  unfold tlo3 at h
  rcases run_ask h with ⟨_, h⟩ | ⟨_, h⟩
  · exact tlo_ok h
  · exact tlo2_ok h
def HSq (f : Nat) : Nat → List Nat := match f with
  | 10 => hOfS [(5, [0, 2, 4, 15, 16, 17]), (1000005, [0, 2, 3, 4])]
  | _ => fun _ => []
noncomputable def S23 : Spec := sSplit1
noncomputable def P24 := pureS R24
noncomputable def P12 := pureS R12
noncomputable def P7p := pureS R7
def oRw (G : List Ent) (zr : Row) : AV × List Ent := (.dat (.list .full 1 zr), G)
noncomputable def t10 : TOrc := tCons 23 (fun a G => tspec (oRw G) (S23 a G)) (tCons 24 (fun a G => tspec (oRn G) (P24 a G)) (tCons 7 (fun a G => tspec (oW G) (P7p a G)) (tCons 12 (fun a G => tspec (oS G) (P12 a G)) tNone)))
noncomputable def lp10 : Code := lpOf (codeOf Go.Proofs.Tryd.f10) 0
def inv10n (s : ByteArray) (l : Row) (i : Int) : St := ⟨mkT 0 49 [(0, .dat (.str s)), (2, .ptr (.loc 0) 0), (4, .dat (.list .nil 0 [])), (15, .dat (.list .full 1 l)), (16, jn (l.length : Nat)), (17, jn i)], ⟨[ob2 0 0], [], 0⟩⟩
def inv10r (s : ByteArray) (r l : Row) (i : Int) : St := ⟨mkT 0 49 [(0, .dat (.str s)), (2, .ptr (.loc 0) 0), (4, .sh false 1 2 0 r.length), (15, .dat (.list .full 1 l)), (16, jn (l.length : Nat)), (17, jn i)], ⟨[ob2 0 0, some (.row .excl 2 r)], [], 0⟩⟩
noncomputable def rk10n (s : ByteArray) (l : Row) (i : Int) : Tr (Ex × St) := tround TT t10 noLo (HSq 10) lp10 (inv10n s l i)
noncomputable def rk10r (s : ByteArray) (r l : Row) (i : Int) : Tr (Ex × St) := tround TT t10 noLo (HSq 10) lp10 (inv10r s r l i)
def out10x (a0 : AV) (r : Row) : Ex × St := (.exit 0, ⟨mkT 0 49 [(0, a0), (2, .ptr (.loc 0) 0), (4, .sh false 1 2 0 r.length)], ⟨[ob2 0 0, some (.row .excl 2 r)], [], 0⟩⟩)
def out10e (a0 : AV) (r : Row) : Ex × St := (.ret, ⟨mkT 0 49 [(0, a0), (2, .ptr (.loc 0) 0), (3, jn 6), (4, .sh false 1 2 0 r.length)], ⟨[ob2 0 0, some (.row .excl 2 r)], [], 0⟩⟩)
def out10z (a0 : AV) (_ : Unit) : Ex × St := (.ret, ⟨mkT 0 49 [(0, a0), (2, .ptr (.loc 0) 0), (3, jn 6), (4, .dat (.list .nil 0 []))], ⟨[ob2 0 0], [], 0⟩⟩)
noncomputable def lo10 (n : Nat) (st : St) : Tr (Ex × St) := match n with
  | 5 => tlo3 TT t10.runs (HSq 10) lp10 (out10x (st.tmps.getD 0 .dead)) (out10e (st.tmps.getD 0 .dead)) (out10z (st.tmps.getD 0 .dead)) st
  | _ => .fail
noncomputable def f10t (s : ByteArray) : Tr (AV × List Ent) := tfn TT t10 lo10 Go.Proofs.Tryd.f10 [.dat (.str s)] []
noncomputable def R10 (a : List AV) (G : List Ent) : Option (AV × List Ent) := (tfn TT t10 lo10 Go.Proofs.Tryd.f10 a G).run
end Go.Eng
end

/- Sets of runs: Parse's loop over words. -/
section
namespace Go.Eng
open Go
set_option maxRecDepth 100000
set_option linter.unusedSimpArgs false

theorem rk10n_eq (s : ByteArray) (l : Row) (i : Int) : (rk10n s l i).ev =
  (rAsk (decide (i < (((List.length l) : Nat) : Int)))
   (rAsk (true && ((decide ((0 : Int) ≤ i)) && (decide (i < (((List.length l) : Nat) : Int)))))
    (rGet l[(Int.toNat i)]? fun x1 =>
     (rGet (List.head? (List.drop 0 x1)) fun x2 =>
      (rGet (fnS (fun (p : (Int × Int) × Bool) => ((AV.tup [(AV.agg [(AV.dat (D.int IntKind.i64 p.1.1)), (AV.dat (D.int IntKind.i64 p.1.2))]), (AV.dat (D.bool p.2))]), [])) (P24 [(AV.dat x2)] [])) fun x3 =>
       (rAsk (!x3.2)
        (some (Ex.ret, (St.mk (mkT 0 49 [(0, (AV.dat (D.str s))), (2, (AV.ptr (Ref.loc 0) 0)), (3, (AV.dat (D.int IntKind.i64 (6 : Int)))), (4, (AV.dat (D.list LK.nil 0 ([] : Row))))]) (Mem.mk [(Option.some (Ent.obj [(AV.dat (D.int IntKind.u64 (0 : Int))), (AV.dat (D.int IntKind.u64 (0 : Int)))]))] [] 0))))
        (some (Ex.norm, (St.mk (mkT 0 49 [(0, (AV.dat (D.str s))), (2, (AV.ptr (Ref.loc 0) 0)), (4, (AV.sh false 1 2 0 1)), (15, (AV.dat (D.list LK.full 1 l))), (16, (AV.dat (D.int IntKind.i64 (((List.length l) : Nat) : Int)))), (17, (AV.dat (D.int IntKind.i64 (IntKind.wrap IntKind.i64 (i + (1 : Int))))))]) (Mem.mk [(Option.some (Ent.obj [(AV.dat (D.int IntKind.u64 (0 : Int))), (AV.dat (D.int IntKind.u64 (0 : Int)))])), (Option.some (Ent.row Mode.excl 2 [[(D.int IntKind.i64 x3.1.1), (D.int IntKind.i64 x3.1.2)]]))] [] 0))))
       )
      )
     )
    )
    none
   )
   (some ((Ex.exit 0), (St.mk (mkT 0 49 [(0, (AV.dat (D.str s))), (2, (AV.ptr (Ref.loc 0) 0)), (4, (AV.dat (D.list LK.nil 0 ([] : Row))))]) (Mem.mk [(Option.some (Ent.obj [(AV.dat (D.int IntKind.u64 (0 : Int))), (AV.dat (D.int IntKind.u64 (0 : Int)))]))] [] 0))))
  )
  := by kernel_rfl
theorem rk10r_eq (s : ByteArray) (r l : Row) (i : Int) : (rk10r s r l i).ev =
  (rAsk (decide (i < (((List.length l) : Nat) : Int)))
   (rAsk (true && ((decide ((0 : Int) ≤ i)) && (decide (i < (((List.length l) : Nat) : Int)))))
    (rGet l[(Int.toNat i)]? fun x1 =>
     (rGet (List.head? (List.drop 0 x1)) fun x2 =>
      (rGet (fnS (fun (p : (Int × Int) × Bool) => ((AV.tup [(AV.agg [(AV.dat (D.int IntKind.i64 p.1.1)), (AV.dat (D.int IntKind.i64 p.1.2))]), (AV.dat (D.bool p.2))]), [])) (P24 [(AV.dat x2)] [])) fun x3 =>
       (rAsk (!x3.2)
        (some (Ex.ret, (St.mk (mkT 0 49 [(0, (AV.dat (D.str s))), (2, (AV.ptr (Ref.loc 0) 0)), (3, (AV.dat (D.int IntKind.i64 (6 : Int)))), (4, (AV.sh false 1 2 0 (List.length r)))]) (Mem.mk [(Option.some (Ent.obj [(AV.dat (D.int IntKind.u64 (0 : Int))), (AV.dat (D.int IntKind.u64 (0 : Int)))])), (Option.some (Ent.row Mode.excl 2 r))] [] 0))))
        (rAsk ((decide ((0 + (List.length r)) ≤ (List.length r))) && (fits (TI.mk (TK.struct [(0, 3), (1, 3)]) 2 16 [(AV.dat (D.int IntKind.i64 (0 : Int))), (AV.dat (D.int IntKind.i64 (0 : Int)))] true) ((List.length r) + 1)))
         (rAsk (true && (decide ((List.length r) = (List.length r))))
          (some (Ex.norm, (St.mk (mkT 0 49 [(0, (AV.dat (D.str s))), (2, (AV.ptr (Ref.loc 0) 0)), (4, (AV.sh false 1 2 0 ((List.length r) + 1))), (15, (AV.dat (D.list LK.full 1 l))), (16, (AV.dat (D.int IntKind.i64 (((List.length l) : Nat) : Int)))), (17, (AV.dat (D.int IntKind.i64 (IntKind.wrap IntKind.i64 (i + (1 : Int))))))]) (Mem.mk [(Option.some (Ent.obj [(AV.dat (D.int IntKind.u64 (0 : Int))), (AV.dat (D.int IntKind.u64 (0 : Int)))])), (Option.some (Ent.row Mode.excl 2 (r ++ [[(D.int IntKind.i64 x3.1.1), (D.int IntKind.i64 x3.1.2)]])))] [] 0))))
          none
         )
         none
        )
       )
      )
     )
    )
    none
   )
   (some ((Ex.exit 0), (St.mk (mkT 0 49 [(0, (AV.dat (D.str s))), (2, (AV.ptr (Ref.loc 0) 0)), (4, (AV.sh false 1 2 0 (List.length r)))]) (Mem.mk [(Option.some (Ent.obj [(AV.dat (D.int IntKind.u64 (0 : Int))), (AV.dat (D.int IntKind.u64 (0 : Int)))])), (Option.some (Ent.row Mode.excl 2 r))] [] 0))))
  )
  := by kernel_rfl
theorem f10t_eq (s : ByteArray) : (f10t s).ev =
  (rAsk ((ByteArray.toList s) == [])
   (some ((AV.tup [(AV.agg [(AV.dat (D.int IntKind.u64 (0 : Int))), (AV.dat (D.int IntKind.u64 (0 : Int)))]), (AV.dat (D.int IntKind.i64 (0 : Int)))]), []))
   (rGet (fnS (fun (zr : Row) => ((AV.dat (D.list LK.full 1 zr)), [])) (S23 [(AV.dat (D.str s)), (AV.dat (D.str (ByteArray.mk (List.toArray [44]))))] [])) fun x1 =>
    (rAsk (Option.isSome (loS TT (TOrc.runs t10) (HSq 10) lp10 (out10x (AV.dat (D.str s))) (St.mk (mkT 0 49 [(0, (AV.dat (D.str s))), (2, (AV.ptr (Ref.loc 0) 0)), (4, (AV.dat (D.list LK.nil 0 ([] : Row)))), (15, (AV.dat (D.list LK.full 1 x1))), (16, (AV.dat (D.int IntKind.i64 (((List.length x1) : Nat) : Int)))), (17, (AV.dat (D.int IntKind.i64 (0 : Int))))]) (Mem.mk [(Option.some (Ent.obj [(AV.dat (D.int IntKind.u64 (0 : Int))), (AV.dat (D.int IntKind.u64 (0 : Int)))]))] [] 0))))
     (rGet (loS TT (TOrc.runs t10) (HSq 10) lp10 (out10x (AV.dat (D.str s))) (St.mk (mkT 0 49 [(0, (AV.dat (D.str s))), (2, (AV.ptr (Ref.loc 0) 0)), (4, (AV.dat (D.list LK.nil 0 ([] : Row)))), (15, (AV.dat (D.list LK.full 1 x1))), (16, (AV.dat (D.int IntKind.i64 (((List.length x1) : Nat) : Int)))), (17, (AV.dat (D.int IntKind.i64 (0 : Int))))]) (Mem.mk [(Option.some (Ent.obj [(AV.dat (D.int IntKind.u64 (0 : Int))), (AV.dat (D.int IntKind.u64 (0 : Int)))]))] [] 0))) fun x2 =>
      (rGet (fnS (fun (p : (Int × Int) × Int) => ((AV.tup [(AV.agg [(AV.dat (D.int IntKind.u64 p.1.1)), (AV.dat (D.int IntKind.u64 p.1.2))]), (AV.dat (D.int IntKind.i64 p.2))]), [])) (P7p [(AV.dat (D.list LK.any 2 (List.take (List.length x2) (List.drop 0 x2))))] [])) fun x3 =>
       (rAsk (x3.2 != (0 : Int))
        (some ((AV.tup [(AV.agg [(AV.dat (D.int IntKind.u64 (0 : Int))), (AV.dat (D.int IntKind.u64 (0 : Int)))]), (AV.dat (D.int IntKind.i64 (6 : Int)))]), []))
        (rGet (fnS (fun (zs : ByteArray) => ((AV.dat (D.str zs)), [])) (P12 [(AV.agg [(AV.dat (D.int IntKind.u64 x3.1.1)), (AV.dat (D.int IntKind.u64 x3.1.2))])] [])) fun x4 =>
         (rAsk (!((ByteArray.toList x4) == (ByteArray.toList s)))
          (some ((AV.tup [(AV.agg [(AV.dat (D.int IntKind.u64 (0 : Int))), (AV.dat (D.int IntKind.u64 (0 : Int)))]), (AV.dat (D.int IntKind.i64 (6 : Int)))]), []))
          (some ((AV.tup [(AV.agg [(AV.dat (D.int IntKind.u64 x3.1.1)), (AV.dat (D.int IntKind.u64 x3.1.2))]), (AV.dat (D.int IntKind.i64 (0 : Int)))]), []))
         )
        )
       )
      )
     )
     (rAsk (Option.isSome (loS TT (TOrc.runs t10) (HSq 10) lp10 (out10e (AV.dat (D.str s))) (St.mk (mkT 0 49 [(0, (AV.dat (D.str s))), (2, (AV.ptr (Ref.loc 0) 0)), (4, (AV.dat (D.list LK.nil 0 ([] : Row)))), (15, (AV.dat (D.list LK.full 1 x1))), (16, (AV.dat (D.int IntKind.i64 (((List.length x1) : Nat) : Int)))), (17, (AV.dat (D.int IntKind.i64 (0 : Int))))]) (Mem.mk [(Option.some (Ent.obj [(AV.dat (D.int IntKind.u64 (0 : Int))), (AV.dat (D.int IntKind.u64 (0 : Int)))]))] [] 0))))
      (rGet (loS TT (TOrc.runs t10) (HSq 10) lp10 (out10e (AV.dat (D.str s))) (St.mk (mkT 0 49 [(0, (AV.dat (D.str s))), (2, (AV.ptr (Ref.loc 0) 0)), (4, (AV.dat (D.list LK.nil 0 ([] : Row)))), (15, (AV.dat (D.list LK.full 1 x1))), (16, (AV.dat (D.int IntKind.i64 (((List.length x1) : Nat) : Int)))), (17, (AV.dat (D.int IntKind.i64 (0 : Int))))]) (Mem.mk [(Option.some (Ent.obj [(AV.dat (D.int IntKind.u64 (0 : Int))), (AV.dat (D.int IntKind.u64 (0 : Int)))]))] [] 0))) fun _ =>
       (some ((AV.tup [(AV.agg [(AV.dat (D.int IntKind.u64 (0 : Int))), (AV.dat (D.int IntKind.u64 (0 : Int)))]), (AV.dat (D.int IntKind.i64 (6 : Int)))]), []))
      )
      (rGet (loS TT (TOrc.runs t10) (HSq 10) lp10 (out10z (AV.dat (D.str s))) (St.mk (mkT 0 49 [(0, (AV.dat (D.str s))), (2, (AV.ptr (Ref.loc 0) 0)), (4, (AV.dat (D.list LK.nil 0 ([] : Row)))), (15, (AV.dat (D.list LK.full 1 x1))), (16, (AV.dat (D.int IntKind.i64 (((List.length x1) : Nat) : Int)))), (17, (AV.dat (D.int IntKind.i64 (0 : Int))))]) (Mem.mk [(Option.some (Ent.obj [(AV.dat (D.int IntKind.u64 (0 : Int))), (AV.dat (D.int IntKind.u64 (0 : Int)))]))] [] 0))) fun _ =>
       (some ((AV.tup [(AV.agg [(AV.dat (D.int IntKind.u64 (0 : Int))), (AV.dat (D.int IntKind.u64 (0 : Int)))]), (AV.dat (D.int IntKind.i64 (6 : Int)))]), []))
      )
     )
    )
   )
  )
  := by kernel_rfl
def progWr : List (List UInt8) → List (Int × Int) → Option (List (Int × Int))
  | [], acc => some acc
  | w :: ws, acc => match runW w with
    | none => none
    | some p => progWr ws (acc ++ [p])
theorem oRn_inj {G : List Ent} : ∀ x y, oRn G x = oRn G y → x = y := by
  rintro ⟨⟨a, b⟩, c⟩ ⟨⟨d, e⟩, f⟩ h
  simp [oRn, jn] at h
  obtain ⟨⟨rfl, rfl⟩, rfl⟩ := h
  rfl
theorem p24 {w : List UInt8} (h : w.length ≤ 2000) (G : List Ent) : P24 [.dat (.str (ba w))] G = some (oRn G (rnOf (runW w))) := pureS_eq rfl (f24_run h) rfl
attribute [local irreducible] fnS loS tround P24
theorem go10r {s : ByteArray} {r l : Row} {i : Int} {o} (h : (rk10r s r l i).ev = o) : (tround TT t10 noLo (HSq 10) lp10 (inv10r s r l i)).run = o := by
  rw [Tr.ev_run] at h
  exact h
theorem go10n {s : ByteArray} {l : Row} {i : Int} {o} (h : (rk10n s l i).ev = o) : (tround TT t10 noLo (HSq 10) lp10 (inv10n s l i)).run = o := by
  rw [Tr.ev_run] at h
  exact h
theorem sRow_at {ws : List (List UInt8)} {i : Nat} {w : List UInt8} (h : ws[i]? = some w) : (sRow ws)[i]? = some [.str (ba w)] := by
  rw [sRow, List.getElem?_map, h]
  rfl
def res10 (s : ByteArray) (st : St) : Option (List (Int × Int)) → Prop
  | some ps => LoopTo TT t10.runs (HSq 10) lp10 st (out10x (.dat (.str s)) (rowR ps))
  | none => ∃ r, LoopTo TT t10.runs (HSq 10) lp10 st (out10e (.dat (.str s)) r)
theorem loop10r (s : ByteArray) : ∀ (rest pre : List (List UInt8)) (acc : List (Int × Int)), (pre ++ rest).length ≤ 3000 → (∀ w ∈ rest, w.length ≤ 2000) → acc.length + rest.length ≤ 3000 →
    res10 s (inv10r s (rowR acc) (sRow (pre ++ rest)) pre.length) (progWr rest acc)
  | [], pre, acc, hn, _, _ => by
    refine LoopTo.last (orc := t10) (lo := noLo) (fun _ _ _ _ h => h) (LoOk2.no _) (go10r ?_) (by simp [out10x])
    rw [rk10r_eq]
    exact aF (by rw [decide_eq_false_iff_not, sRow_len, List.append_nil]; omega) rfl
  | w :: rest, pre, acc, hn, hw, ha => by
    have hw1 := hw w (by simp)
    have hlen : (sRow (pre ++ w :: rest)).length = pre.length + rest.length + 1 := by
      rw [sRow_len, List.length_append, List.length_cons]; omega
    rw [List.length_append, List.length_cons] at hn
    rw [List.length_cons] at ha
    have e24 := fnS_eq (out := oRn []) oRn_inj (p24 hw1 [])
    have hat : (sRow (pre ++ w :: rest))[Int.toNat ((pre.length : Nat) : Int)]? = some [.str (ba w)] := by
      rw [Int.toNat_natCast]
      exact sRow_at (by simp)
    have a0 : decide (((pre.length : Nat) : Int) < (((sRow (pre ++ w :: rest)).length : Nat) : Int)) = true := by rw [decide_eq_true_eq]; omega
    have hb : (true && ((decide ((0 : Int) ≤ ((pre.length : Nat) : Int))) && (decide (((pre.length : Nat) : Int) < (((sRow (pre ++ w :: rest)).length : Nat) : Int))))) = true := by
      rw [Bool.true_and, Bool.and_eq_true, decide_eq_true_eq, decide_eq_true_eq]
      omega
    unfold progWr
    cases hp : runW w with
    | none =>
      rw [hp] at e24
      refine ⟨rowR acc, LoopTo.last (orc := t10) (lo := noLo) (fun _ _ _ _ h => h) (LoOk2.no _) (go10r ?_) (by simp [out10e])⟩
      rw [rk10r_eq]
      exact aT a0 (aT hb (gStep hat (gStep rfl (gStep e24 (aT rfl rfl)))))
    | some p =>
      rw [hp] at e24
      have step : (tround TT t10 noLo (HSq 10) lp10 (inv10r s (rowR acc) (sRow (pre ++ w :: rest)) pre.length)).run = some (.norm, inv10r s (rowR (acc ++ [p])) (sRow (pre ++ w :: rest)) ((pre.length + 1 : Nat) : Int)) := by
        refine go10r ?_
        rw [rk10r_eq, w64 (n := pre.length + 1) (by omega) (x := ((pre.length : Nat) : Int) + 1) (by omega)]
        refine aT a0 (aT hb (gStep hat (gStep rfl (gStep e24 (aF rfl (aT ?_ (aT (by simp) ?_)))))))
        · rw [Bool.and_eq_true, decide_eq_true_eq, fits_iff, rowR_len]
          omega
        · have e : rowR (acc ++ [p]) = rowR acc ++ [[.int .i64 p.1, .int .i64 p.2]] := by simp [rowR]
          rw [inv10r, e, List.length_append]
          rfl
      have ih := loop10r s rest (pre ++ [w]) (acc ++ [p]) (by simp only [List.length_append, List.length_cons, List.length_nil]; omega) (fun v hv => hw v (by simp [hv])) (by rw [List.length_append, List.length_singleton]; omega)
      rw [show pre ++ [w] ++ rest = pre ++ w :: rest by simp, show List.length (pre ++ [w]) = pre.length + 1 by simp] at ih
      simp only
      cases hq : progWr rest (acc ++ [p]) with
      | some o =>
        rw [hq] at ih
        exact LoopTo.more (orc := t10) (lo := noLo) (fun _ _ _ _ h => h) (LoOk2.no _) step ih
      | none =>
        rw [hq] at ih
        obtain ⟨r, ih⟩ := ih
        exact ⟨r, LoopTo.more (orc := t10) (lo := noLo) (fun _ _ _ _ h => h) (LoOk2.no _) step ih⟩
end Go.Eng
end

/- Sets of runs: Parse's loop from the start. -/
section
namespace Go.Eng
open Go
set_option maxRecDepth 100000
set_option linter.unusedSimpArgs false

attribute [local irreducible] fnS loS tround P24
def res10n (s : ByteArray) (st : St) : Option (List (Int × Int)) → Prop
  | some ps => LoopTo TT t10.runs (HSq 10) lp10 st (out10x (.dat (.str s)) (rowR ps))
  | none => (∃ r, LoopTo TT t10.runs (HSq 10) lp10 st (out10e (.dat (.str s)) r)) ∨ LoopTo TT t10.runs (HSq 10) lp10 st (out10z (.dat (.str s)) ())
theorem loop10n (s : ByteArray) (w : List UInt8) (rest : List (List UInt8)) (hn : rest.length + 1 ≤ 2000) (hw : ∀ v ∈ w :: rest, v.length ≤ 2000) :
    res10n s (inv10n s (sRow (w :: rest)) 0) (progWr (w :: rest) []) := by
  have hw1 := hw w (by simp)
  have e24 := fnS_eq (out := oRn []) oRn_inj (p24 hw1 [])
  have hlen : (sRow (w :: rest)).length = rest.length + 1 := by rw [sRow_len, List.length_cons]
  have a0 : decide ((0 : Int) < (((sRow (w :: rest)).length : Nat) : Int)) = true := by rw [decide_eq_true_eq]; omega
  have hb : (true && ((decide ((0 : Int) ≤ 0)) && (decide ((0 : Int) < (((sRow (w :: rest)).length : Nat) : Int))))) = true := by
    rw [Bool.true_and, Bool.and_eq_true, decide_eq_true_eq, decide_eq_true_eq]
    omega
  unfold progWr
  cases hp : runW w with
  | none =>
    rw [hp] at e24
    refine .inr (LoopTo.last (orc := t10) (lo := noLo) (fun _ _ _ _ h => h) (LoOk2.no _) (go10n ?_) (by simp [out10z]))
    rw [rk10n_eq]
    exact aT a0 (aT hb (gStep (x := [.str (ba w)]) rfl (gStep (x := D.str (ba w)) rfl (gStep e24 (aT rfl rfl)))))
  | some p =>
    rw [hp] at e24
    have step : (tround TT t10 noLo (HSq 10) lp10 (inv10n s (sRow (w :: rest)) 0)).run = some (.norm, inv10r s (rowR [p]) (sRow (w :: rest)) 1) := by
      refine go10n ?_
      rw [rk10n_eq]
      exact aT a0 (aT hb (gStep (x := [.str (ba w)]) rfl (gStep (x := D.str (ba w)) rfl (gStep e24 (aF rfl rfl)))))
    have ih := loop10r s rest [w] [p] (by simp only [List.length_append, List.length_cons, List.length_nil]; omega) (fun v hv => hw v (by simp [hv])) (by simp only [List.length_singleton]; omega)
    simp only [List.nil_append]
    cases hq : progWr rest [p] with
    | some o =>
      rw [hq] at ih
      exact LoopTo.more (orc := t10) (lo := noLo) (fun _ _ _ _ h => h) (LoOk2.no _) step ih
    | none =>
      rw [hq] at ih
      obtain ⟨r, ih⟩ := ih
      exact .inl ⟨r, LoopTo.more (orc := t10) (lo := noLo) (fun _ _ _ _ h => h) (LoOk2.no _) step ih⟩
end Go.Eng
end

/- Sets of runs: the program's Parse. -/
section
namespace Go.Eng
open Go
set_option maxRecDepth 100000
set_option linter.unusedSimpArgs false

theorem runB_cuts_len (b : UInt8) : ∀ (l : List UInt8), ∀ w ∈ cutsL b l, w.length ≤ l.length
  | [], w, h => by
    simp only [cutsL, List.mem_singleton] at h
    subst h
    exact Nat.le_refl _
  | c :: l, w, h => by
    have ih := runB_cuts_len b l
    unfold cutsL at h
    split at h
    · rcases List.mem_cons.1 h with rfl | h
      · exact Nat.zero_le _
      · have := ih w h
        rw [List.length_cons]; omega
    · split at h
      · simp only [List.mem_singleton] at h
        subst h
        simp only [List.length_cons, List.length_nil]; omega
      · rename_i x xs e
        rw [e] at ih
        rcases List.mem_cons.1 h with rfl | h
        · have := ih x (by simp)
          simp only [List.length_cons]; omega
        · have := ih w (by simp [h])
          rw [List.length_cons]; omega
theorem runB_cuts_num (b : UInt8) : ∀ l : List UInt8, (cutsL b l).length ≤ l.length + 1
  | [] => by simp [cutsL]
  | c :: l => by
    have ih := runB_cuts_num b l
    unfold cutsL
    split
    · simp only [List.length_cons]; omega
    · split
      · simp
      · rename_i e
        rw [e] at ih
        simp only [List.length_cons] at ih ⊢; omega
theorem runB_cuts_ne (b : UInt8) (l : List UInt8) : ∃ w ws, cutsL b l = w :: ws := by
  cases l with
  | nil => exact ⟨[], [], rfl⟩
  | cons c l =>
    unfold cutsL
    split
    · exact ⟨_, _, rfl⟩
    · split
      · exact ⟨_, _, rfl⟩
      · exact ⟨_, _, rfl⟩
theorem setF_fit : ∀ (ps : List (Int × Int)) (s : Nat × Nat), fitB s → fitB (setF ps s).1
  | [], _, h => h
  | (m, c) :: ps, s, h => by
    unfold setF
    split
    · rename_i h0
      obtain ⟨h1, h2, h3, h4⟩ := rightI_ok h0
      exact setF_fit ps _ (fillF_fit _ _ _ (by omega) h)
    · exact ⟨by simp, by simp⟩
def endP (s : List UInt8) (ps : List (Int × Int)) : Option (Nat × Nat) := if (setF ps (0, 0)).2 = 0 then if textB (setF ps (0, 0)).1 = s then some (setF ps (0, 0)).1 else none else none
def progP (s : List UInt8) : Option (Nat × Nat) := if s = [] then some (0, 0) else (progWr (cutsL 44 s) []).bind (endP s)
def pOf (o : Option (Nat × Nat)) : (Int × Int) × Int := match o with
  | some x => (c2 x, 0)
  | none => ((0, 0), 6)
theorem oRw_inj {G : List Ent} : ∀ x y, oRw G x = oRw G y → x = y := by
  intro x y h
  simp [oRw] at h
  exact h
theorem oW_inj' {G : List Ent} : ∀ x y, oW G x = oW G y → x = y := by
  rintro ⟨⟨a, b⟩, c⟩ ⟨⟨d, e⟩, f⟩ h
  simp [oW, st2, jn] at h
  obtain ⟨⟨rfl, rfl⟩, rfl⟩ := h
  rfl
theorem ba_data (l : List UInt8) : (ba l).data.toList = l := by simp [ba]
theorem S23_at {t : List UInt8} (h : t.length ≤ 1500) (G : List Ent) : S23 [.dat (.str (ba t)), .dat (.str (ByteArray.mk (List.toArray [44])))] G = some (oRw G (sRow (cutsL 44 t))) := by
  simp only [S23, sSplit1]
  rw [if_pos (by have := ba_size t; unfold ba; omega)]
  rfl
theorem p7p {k : LK} {ps : List (Int × Int)} (h : ps.length ≤ 3000) (G : List Ent) : P7p [.dat (.list k 2 (rowR ps))] G = some (oW G (c2 (setF ps (0, 0)).1, (setF ps (0, 0)).2)) := by
  unfold P7p
  exact pureS_eq rfl (f7_run h) rfl
theorem p12 {s : Nat × Nat} (h : fitB s) (G : List Ent) : P12 [st2 s.1 s.2] G = some (oS G (ba (textB s))) := by
  obtain ⟨G', h⟩ := q12 h
  unfold P12
  exact pureS_eq rfl h rfl
theorem progWr_len : ∀ (ws : List (List UInt8)) (acc ps : List (Int × Int)), progWr ws acc = some ps → ps.length = acc.length + ws.length
  | [], acc, ps, h => by cases h; simp
  | w :: ws, acc, ps, h => by
    unfold progWr at h
    split at h
    · cases h
    · have := progWr_len ws _ _ h
      rw [this]
      simp; omega
theorem out10x_inj {a : AV} : ∀ x y, out10x a x = out10x a y → x = y := by
  intro x y h
  simp [out10x] at h
  exact h.2
theorem out10e_inj {a : AV} : ∀ x y, out10e a x = out10e a y → x = y := by
  intro x y h
  simp [out10e] at h
  exact h.2
theorem out10z_inj {a : AV} : ∀ x y, out10z a x = out10z a y → x = y := fun _ _ _ => rfl
theorem out10_xe {a : AV} {y : Row} : ∀ x, out10x a x ≠ out10e a y := fun x h => by simp [out10x, out10e] at h
theorem out10_xz {a : AV} {y : Unit} : ∀ x, out10x a x ≠ out10z a y := fun x h => by simp [out10x, out10z] at h
theorem out10_ez {a : AV} {y : Unit} : ∀ x, out10e a x ≠ out10z a y := fun x h => by simp [out10e, out10z] at h
theorem same_ba (a b : List UInt8) : ((ba a).toList == (ba b).toList) = decide (a = b) := by
  rw [ba_list, ba_list]
  rw [Bool.eq_iff_iff, beq_iff_eq, decide_eq_true_eq]
attribute [local irreducible] fnS loS tround P24 P12 P7p S23
theorem f10_run {t : List UInt8} (h : t.length ≤ 1500) : R10 [.dat (.str (ba t))] [] = some (oW [] (pOf (progP t))) := by
  have key : ∀ o, (f10t (ba t)).ev = o → R10 [.dat (.str (ba t))] [] = o := fun o h => by
    rw [Tr.ev_run] at h
    exact h
  refine key _ ?_
  rw [f10t_eq]
  unfold progP
  by_cases h0 : t = []
  · subst h0
    rw [if_pos rfl]
    exact aT (by rw [ba_list]; rfl) rfl
  · rw [if_neg h0]
    have hn := runB_cuts_num 44 t
    have hwl := runB_cuts_len 44 t
    obtain ⟨w, ws, hc⟩ := runB_cuts_ne 44 t
    rw [hc] at hn hwl ⊢
    have hs := S23_at h []
    rw [hc] at hs
    rw [List.length_cons] at hn
    have hl := loop10n (ba t) w ws (by omega) (fun v hv => by have := hwl v hv; omega)
    refine aF (by rw [show ([] : List UInt8) = (ba []).toList from (ba_list []).symm, same_ba]; exact decide_eq_false h0) (gStep (fnS_eq (out := oRw []) oRw_inj hs) ?_)
    cases hp : progWr (w :: ws) [] with
    | none =>
      rw [hp] at hl
      unfold res10n at hl
      rcases hl with ⟨r, hl⟩ | hl
      · exact aF (loS_no (o1 := out10x (.dat (.str (ba t)))) hl out10_xe) (aT (loS_yes (o1 := out10e (.dat (.str (ba t)))) out10e_inj hl) (gStep (loS_eq (out := out10e (.dat (.str (ba t)))) out10e_inj hl) rfl))
      · exact aF (loS_no (o1 := out10x (.dat (.str (ba t)))) hl out10_xz) (aF (loS_no (o1 := out10e (.dat (.str (ba t)))) hl out10_ez) (gStep (loS_eq (out := out10z (.dat (.str (ba t)))) out10z_inj hl) rfl))
    | some ps =>
      rw [hp] at hl
      unfold res10n at hl
      have hlen := progWr_len _ _ _ hp
      simp only [List.length_nil, List.length_cons] at hlen
      have h7 : P7p [.dat (.list .any 2 (List.take (List.length (rowR ps)) (List.drop 0 (rowR ps))))] [] = some (oW [] (c2 (setF ps (0, 0)).1, (setF ps (0, 0)).2)) := by
        rw [List.drop_zero, List.take_length]
        exact p7p (by omega) []
      have hf := setF_fit ps (0, 0) ⟨by decide, by decide⟩
      refine aT (loS_yes (o1 := out10x (.dat (.str (ba t)))) out10x_inj hl) (gStep (loS_eq (out := out10x (.dat (.str (ba t)))) out10x_inj hl) (gStep (fnS_eq (out := oW []) oW_inj' h7) ?_))
      simp only [Option.bind_some, endP]
      by_cases h1 : (setF ps (0, 0)).2 = 0
      · refine aF (by simp [h1]) (gStep (fnS_eq (out := oS []) oS_inj (p12 hf [])) ?_)
        rw [if_pos h1]
        by_cases h2 : textB (setF ps (0, 0)).1 = t
        · rw [if_pos h2]
          exact aF (by rw [same_ba]; simp [h2]) rfl
        · rw [if_neg h2]
          exact aT (by rw [same_ba]; simp [h2]) rfl
      · rw [if_neg h1]
        exact aT (by simpa using h1) rfl
end Go.Eng
end

/- Sets of runs: both Parse are alike, in plain terms. -/
section
namespace Go.Eng
open Go
set_option maxRecDepth 100000
set_option linter.unusedSimpArgs false

def ciR (r : Nat × Nat) : Int × Int := ((r.1 : Int), (r.2 : Int))
theorem fillF_eq (m : Nat) : ∀ (d j : Nat) (s : Nat × Nat), fillF m j d s = fillR m j d s
  | 0, _, _ => rfl
  | d + 1, j, s => by
    rw [fillF, fillR]
    exact fillF_eq m d (j + 1) _
theorem rightI_zero {r : Nat × Nat} (h1 : 1 ≤ r.2) (h2 : r.1 + r.2 ≤ 128) : rightI (r.1 : Nat) (r.2 : Nat) = 0 := by
  unfold rightI
  rw [if_neg (by omega), if_neg (by omega), if_neg (by omega), if_neg (by omega)]
theorem setF_runs : ∀ (rs : List (Nat × Nat)) (s : Nat × Nat), (∀ r ∈ rs, 1 ≤ r.2 ∧ r.1 + r.2 ≤ 128) → setF (rs.map ciR) s = (fillsR rs s, 0)
  | [], _, _ => rfl
  | r :: rs, s, h => by
    have h0 := h r (by simp)
    rw [List.map_cons, ciR, setF, if_pos (rightI_zero h0.1 h0.2), Int.toNat_natCast, Int.toNat_natCast, fillF_eq]
    exact setF_runs rs _ fun q hq => h q (List.mem_cons_of_mem _ hq)
theorem progWr_words : ∀ (rs : List (Nat × Nat)) (acc : List (Int × Int)), (∀ r ∈ rs, 1 ≤ r.2 ∧ r.1 + r.2 ≤ 128) → progWr (rs.map wordN) acc = some (acc ++ rs.map ciR)
  | [], acc, _ => by simp [progWr]
  | r :: rs, acc, h => by
    have h0 := h r (by simp)
    rw [List.map_cons, progWr, runW_word h0.1 h0.2]
    simp only
    rw [progWr_words rs _ fun q hq => h q (List.mem_cons_of_mem _ hq)]
    simp [ciR]
def refP (s : List UInt8) : Option (Nat × Nat) := match refGo s.length s (0, 0) with
  | none => none
  | some x => if textB x = s then some x else none
theorem fillTo_fit {a b : Int} {s : Nat × Nat} (h0 : 0 ≤ a) (h : fitB s) : fitB (fillTo a b s) := by
  unfold fillTo
  by_cases ha : a ≤ 127
  · exact fillR_fit _ _ _ (by omega) h
  · rw [show (min b 127 + 1 - a).toNat = 0 by omega]
    exact h
theorem numL_nn : ∀ (l : List UInt8) (n : Int), 0 ≤ n → 0 ≤ (numL n l).1
  | [], _, h => h
  | d :: l, n, h => by
    unfold numL
    split
    · rename_i q
      exact numL_nn l _ (by omega)
    · exact h
theorem refGo_fit : ∀ (f : Nat) (l : List UInt8) (s x : Nat × Nat), fitB s → refGo f l s = some x → fitB x
  | f, [], s, x, h, e => by
    cases f <;> (rw [refGo] at e; cases e; exact h)
  | 0, _ :: _, s, x, h, e => by rw [refGo] at e; cases e
  | f + 1, c :: l, s, x, h, e => by
    rw [refGo] at e
    have hn := numL_nn (c :: l) 0 (by omega)
    split at e
    · cases e
      exact fillTo_fit hn h
    · split at e
      · exact refGo_fit f _ _ x (fillTo_fit hn h) e
      · cases e
theorem wordN_ne (r : Nat × Nat) (h : r.1 < 128) : wordN r ≠ [] := by
  have := (dec_at2 h).2.2.1
  intro e
  unfold wordN at e
  have e1 := List.append_eq_nil_iff.1 e
  rw [e1.1] at this
  simp at this
theorem join_len_le : ∀ (rs : List (Nat × Nat)) (r : Nat × Nat), (∀ q ∈ r :: rs, q.1 < 128) → rs.length < (Go.Lib.join ((r :: rs).map wordN) [44]).length
  | [], r, h => by
    have := wordN_ne r (h r (by simp))
    rw [List.map_cons, List.map_nil, Go.Lib.join_one]
    cases hw : wordN r with
    | nil => exact absurd hw this
    | cons x xs => simp
  | v :: rs, r, h => by
    have ih := join_len_le rs v fun q hq => h q (List.mem_cons_of_mem _ hq)
    rw [List.map_cons, Go.Lib.join_cons] at ih ⊢
    rw [show Go.Lib.joinTail [44] ((v :: rs).map wordN) = 44 :: (wordN v ++ Go.Lib.joinTail [44] (rs.map wordN)) from rfl]
    simp only [List.length_append, List.length_cons] at ih ⊢
    omega
theorem both_text {x : Nat × Nat} {s : List UInt8} (hx : fitB x) (h : textB x = s) (h0 : s ≠ []) : progP s = some x ∧ refP s = some x := by
  have hle := fun r (hr : r ∈ runsB x) => runs_le (s := x) (r := r) hr
  have hf := fills_runs hx
  unfold textB at h
  cases hr : runsB x with
  | nil =>
    rw [hr] at h
    exact absurd h.symm h0
  | cons r rs =>
    rw [hr] at h hle hf
    constructor
    · unfold progP
      rw [if_neg h0]
      have hc : cutsL 44 s = (r :: rs).map wordN := by
        rw [← h]
        exact cutsL_join (wordN r) (rs.map wordN) fun v hv => by
          rw [← List.map_cons] at hv
          obtain ⟨q, hq, rfl⟩ := List.mem_map.1 hv
          exact wordN_gap (hle q hq).2 (hle q hq).1
      rw [hc, progWr_words _ _ hle, List.nil_append, Option.bind_some, endP, setF_runs _ _ hle, hf]
      simp only [if_true]
      rw [if_pos]
      unfold textB
      rw [hr]
      exact h
    · unfold refP
      have hl := join_len_le rs r fun q hq => by have := hle q hq; omega
      rw [h] at hl
      have e := refGo_words rs r s.length (0, 0) hle hl
      rw [h] at e
      rw [e, hf]
      simp only
      rw [if_pos]
      unfold textB
      rw [hr]
      exact h
theorem parse_eq (s : List UInt8) : progP s = refP s := by
  by_cases h0 : s = []
  · subst h0
    rfl
  · cases hp : progP s with
    | some x =>
      have hq := hp
      unfold progP at hp
      rw [if_neg h0] at hp
      obtain ⟨ps, h1, h2⟩ := Option.bind_eq_some_iff.1 hp
      unfold endP at h2
      split at h2
      · split at h2
        · rename_i ht
          cases h2
          exact (both_text (setF_fit ps _ ⟨by decide, by decide⟩) ht h0).2.symm
        · cases h2
      · cases h2
    | none =>
      cases hr : refP s with
      | none => rfl
      | some x =>
        have hq := hr
        unfold refP at hr
        split at hr
        · cases hr
        · rename_i y hy
          split at hr
          · rename_i ht
            cases hr
            rw [(both_text (refGo_fit _ _ _ _ ⟨by decide, by decide⟩ hy) ht h0).1] at hp
            cases hp
          · cases hr
theorem progP_fit {s : List UInt8} {x : Nat × Nat} (h : progP s = some x) : fitB x := by
  unfold progP at h
  split at h
  · cases h
    exact ⟨by decide, by decide⟩
  · obtain ⟨ps, h1, h2⟩ := Option.bind_eq_some_iff.1 h
    unfold endP at h2
    split at h2
    · split at h2
      · cases h2
        exact setF_fit ps _ ⟨by decide, by decide⟩
      · cases h2
    · cases h2
theorem progP_text {s : List UInt8} {x : Nat × Nat} (h : progP s = some x) : textB x = s := by
  unfold progP at h
  split at h
  · rename_i h0
    cases h
    subst h0
    rfl
  · obtain ⟨ps, h1, h2⟩ := Option.bind_eq_some_iff.1 h
    unfold endP at h2
    split at h2
    · split at h2
      · rename_i ht
        cases h2
        exact ht
      · cases h2
    · cases h2
end Go.Eng
end
