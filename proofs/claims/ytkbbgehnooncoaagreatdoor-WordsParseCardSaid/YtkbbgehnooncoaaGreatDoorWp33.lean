/- Steps as lines: steps alike, words of kinds, the taker. -/
import Derived.Test.YtkbbgehnooncoaaGreatDoorWp32
section
namespace Go.Eng
open Go
set_option maxRecDepth 100000
set_option linter.unusedSimpArgs false

theorem g18t_eq (k nd a n : Int) (d : ByteArray) (s : Int) (lk : LK) (z : Nat) (l : Row) (k' nd' a' n' : Int) (d' : ByteArray) (s' : Int) (lk' : LK) (z' : Nat) (l' : Row) : (g18t k nd a n d s lk z l k' nd' a' n' d' s' lk' z' l').ev =
 (rAsk (k == k')
 (rAsk (nd == nd')
 (rAsk (a == a')
 (rAsk (n == n')
 (rAsk (s == s')
 (rAsk ((ByteArray.toList d) == (ByteArray.toList d'))
 (rGet (fnS (fun (b : Bool) => ((AV.dat (D.bool b)), [])) (P234 [(AV.dat (D.list lk z l)), (AV.dat (D.list lk' z' l'))] [])) fun x1 =>
 (some ((AV.dat (D.bool x1)), [])))
 (some ((AV.dat (D.bool false)), [])))
 (some ((AV.dat (D.bool false)), [])))
 (some ((AV.dat (D.bool false)), [])))
 (some ((AV.dat (D.bool false)), [])))
 (some ((AV.dat (D.bool false)), [])))
 (some ((AV.dat (D.bool false)), [])))
  := by kernel_rfl
theorem rk10s_eq (k nd a n : Int) (d : ByteArray) (s : Int) (lk : LK) (z : Nat) (l : Row) (k' nd' a' n' : Int) (d' : ByteArray) (s' : Int) (lk' : LK) (z' : Nat) (l' : Row) (i : Int) : (rk10s k nd a n d s lk z l k' nd' a' n' d' s' lk' z' l' i).ev =
 (rAsk (decide (i < (((List.length l) : Nat) : Int)))
 (rAsk ((decide (z = 1)) && ((decide ((0 : Int) ≤ i)) && (decide (i < (((List.length l) : Nat) : Int)))))
 (rGet l[(Int.toNat i)]? fun x1 =>
 (rGet (List.head? (List.drop 0 x1)) fun x2 =>
 (rAsk ((decide (z' = 1)) && ((decide ((0 : Int) ≤ i)) && (decide (i < (((List.length l') : Nat) : Int)))))
 (rGet l'[(Int.toNat i)]? fun x3 =>
 (rGet (List.head? (List.drop 0 x3)) fun x4 =>
 (rGet (D.bool? x2) fun x5 =>
 (rGet (D.bool? x4) fun x6 =>
 (rAsk (!(x5 == x6))
 (some (Ex.ret, (St.mk (mkT 0 73 [(4, (AV.dat (D.bool false)))]) (Mem.mk [] [] 0))))
 (some (Ex.norm, (St.mk (mkT 0 73 [(2, (AV.ptr (Ref.loc 0) 0)), (3, (AV.ptr (Ref.loc 1) 0)), (5, (AV.dat (D.int IntKind.i64 (IntKind.wrap IntKind.i64 (i + (1 : Int))))))]) (Mem.mk [(Option.some (Ent.obj [(AV.dat (D.int IntKind.i64 k)), (AV.dat (D.int IntKind.i64 nd)), (AV.dat (D.int IntKind.i64 a)), (AV.dat (D.int IntKind.i64 n)), (AV.dat (D.str d)), (AV.dat (D.int IntKind.i64 s)), (AV.dat (D.list lk z l))])), (Option.some (Ent.obj [(AV.dat (D.int IntKind.i64 k')), (AV.dat (D.int IntKind.i64 nd')), (AV.dat (D.int IntKind.i64 a')), (AV.dat (D.int IntKind.i64 n')), (AV.dat (D.str d')), (AV.dat (D.int IntKind.i64 s')), (AV.dat (D.list lk' z' l'))]))] [] 0)))))))))
 none)))
 none)
 (some ((Ex.exit 0), (St.mk (mkT 0 73 []) (Mem.mk [] [] 0)))))
  := by kernel_rfl
theorem g10t_eq (k nd a n : Int) (d : ByteArray) (s : Int) (lk : LK) (z : Nat) (l : Row) (k' nd' a' n' : Int) (d' : ByteArray) (s' : Int) (lk' : LK) (z' : Nat) (l' : Row) : (g10t k nd a n d s lk z l k' nd' a' n' d' s' lk' z' l').ev =
 (rAsk (k != k')
 (some ((AV.dat (D.bool false)), []))
 (rAsk (nd != nd')
 (some ((AV.dat (D.bool false)), []))
 (rAsk (a != a')
 (some ((AV.dat (D.bool false)), []))
 (rAsk (n != n')
 (some ((AV.dat (D.bool false)), []))
 (rAsk (!((ByteArray.toList d) == (ByteArray.toList d')))
 (some ((AV.dat (D.bool false)), []))
 (rAsk (s != s')
 (some ((AV.dat (D.bool false)), []))
 (rAsk ((((List.length l) : Nat) : Int) != (((List.length l') : Nat) : Int))
 (some ((AV.dat (D.bool false)), []))
 (rAsk (Option.isSome (loS TT (TOrc.runs tNone) (HSe 10) lp10s out10e (St.mk (mkT 0 73 [(2, (AV.ptr (Ref.loc 0) 0)), (3, (AV.ptr (Ref.loc 1) 0)), (5, (AV.dat (D.int IntKind.i64 (0 : Int))))]) (Mem.mk [(Option.some (Ent.obj [(AV.dat (D.int IntKind.i64 k)), (AV.dat (D.int IntKind.i64 nd)), (AV.dat (D.int IntKind.i64 a)), (AV.dat (D.int IntKind.i64 n)), (AV.dat (D.str d)), (AV.dat (D.int IntKind.i64 s)), (AV.dat (D.list lk z l))])), (Option.some (Ent.obj [(AV.dat (D.int IntKind.i64 k')), (AV.dat (D.int IntKind.i64 nd')), (AV.dat (D.int IntKind.i64 a')), (AV.dat (D.int IntKind.i64 n')), (AV.dat (D.str d')), (AV.dat (D.int IntKind.i64 s')), (AV.dat (D.list lk' z' l'))]))] [] 0))))
 (rGet (loS TT (TOrc.runs tNone) (HSe 10) lp10s out10e (St.mk (mkT 0 73 [(2, (AV.ptr (Ref.loc 0) 0)), (3, (AV.ptr (Ref.loc 1) 0)), (5, (AV.dat (D.int IntKind.i64 (0 : Int))))]) (Mem.mk [(Option.some (Ent.obj [(AV.dat (D.int IntKind.i64 k)), (AV.dat (D.int IntKind.i64 nd)), (AV.dat (D.int IntKind.i64 a)), (AV.dat (D.int IntKind.i64 n)), (AV.dat (D.str d)), (AV.dat (D.int IntKind.i64 s)), (AV.dat (D.list lk z l))])), (Option.some (Ent.obj [(AV.dat (D.int IntKind.i64 k')), (AV.dat (D.int IntKind.i64 nd')), (AV.dat (D.int IntKind.i64 a')), (AV.dat (D.int IntKind.i64 n')), (AV.dat (D.str d')), (AV.dat (D.int IntKind.i64 s')), (AV.dat (D.list lk' z' l'))]))] [] 0))) fun _ =>
 (some ((AV.dat (D.bool true)), [])))
 (rGet (loS TT (TOrc.runs tNone) (HSe 10) lp10s out10x (St.mk (mkT 0 73 [(2, (AV.ptr (Ref.loc 0) 0)), (3, (AV.ptr (Ref.loc 1) 0)), (5, (AV.dat (D.int IntKind.i64 (0 : Int))))]) (Mem.mk [(Option.some (Ent.obj [(AV.dat (D.int IntKind.i64 k)), (AV.dat (D.int IntKind.i64 nd)), (AV.dat (D.int IntKind.i64 a)), (AV.dat (D.int IntKind.i64 n)), (AV.dat (D.str d)), (AV.dat (D.int IntKind.i64 s)), (AV.dat (D.list lk z l))])), (Option.some (Ent.obj [(AV.dat (D.int IntKind.i64 k')), (AV.dat (D.int IntKind.i64 nd')), (AV.dat (D.int IntKind.i64 a')), (AV.dat (D.int IntKind.i64 n')), (AV.dat (D.str d')), (AV.dat (D.int IntKind.i64 s')), (AV.dat (D.list lk' z' l'))]))] [] 0))) fun _ =>
 (some ((AV.dat (D.bool false)), [])))))))))))
  := by kernel_rfl
theorem rk44w_eq (l : Row) (w : ByteArray) (m i : Int) : (rk44w l w m i).ev =
 (rAsk (decide (i < m))
 (rAsk (true && ((decide ((0 : Int) ≤ i)) && (decide (i < (((List.length l) : Nat) : Int)))))
 (rGet l[(Int.toNat i)]? fun x1 =>
 (rGet (List.head? (List.drop 0 x1)) fun x2 =>
 (rGet (D.str? x2) fun x3 =>
 (rAsk ((ByteArray.toList w) == (ByteArray.toList x3))
 (some (Ex.ret, (St.mk (mkT 0 19 [(4, (AV.dat (D.int IntKind.i64 i)))]) (Mem.mk [] [] 0))))
 (some (Ex.norm, (St.mk (mkT 0 19 [(0, (AV.dat (D.list LK.full 1 l))), (1, (AV.dat (D.str w))), (7, (AV.dat (D.int IntKind.i64 m))), (8, (AV.dat (D.int IntKind.i64 (IntKind.wrap IntKind.i64 (i + (1 : Int))))))]) (Mem.mk [] [] 0))))))))
 none)
 (some ((Ex.exit 0), (St.mk (mkT 0 19 []) (Mem.mk [] [] 0)))))
  := by kernel_rfl
theorem g44t_eq (l : Row) (w : ByteArray) : (g44t l w).ev =
 (rAsk (Option.isSome (loS TT (TOrc.runs tNone) (HSe 44) lp44w out44e (St.mk (mkT 0 19 [(0, (AV.dat (D.list LK.full 1 l))), (1, (AV.dat (D.str w))), (7, (AV.dat (D.int IntKind.i64 (((List.length l) : Nat) : Int)))), (8, (AV.dat (D.int IntKind.i64 (0 : Int))))]) (Mem.mk [] [] 0))))
 (rGet (loS TT (TOrc.runs tNone) (HSe 44) lp44w out44e (St.mk (mkT 0 19 [(0, (AV.dat (D.list LK.full 1 l))), (1, (AV.dat (D.str w))), (7, (AV.dat (D.int IntKind.i64 (((List.length l) : Nat) : Int)))), (8, (AV.dat (D.int IntKind.i64 (0 : Int))))]) (Mem.mk [] [] 0))) fun _ =>
 (some ((AV.dat (D.int IntKind.i64 (-(1 : Int)))), [])))
 (rGet (loS TT (TOrc.runs tNone) (HSe 44) lp44w out44x (St.mk (mkT 0 19 [(0, (AV.dat (D.list LK.full 1 l))), (1, (AV.dat (D.str w))), (7, (AV.dat (D.int IntKind.i64 (((List.length l) : Nat) : Int)))), (8, (AV.dat (D.int IntKind.i64 (0 : Int))))]) (Mem.mk [] [] 0))) fun x2 =>
 (some ((AV.dat (D.int IntKind.i64 x2)), []))))
  := by kernel_rfl
theorem rk48w_eq (w : ByteArray) (l : Row) (i : Int) : (rk48w w l i).ev =
 (rAsk (decide (i < (((List.length l) : Nat) : Int)))
 (rAsk (true && ((decide ((0 : Int) ≤ i)) && (decide (i < (((List.length l) : Nat) : Int)))))
 (rGet l[(Int.toNat i)]? fun x1 =>
 (rGet (List.head? (List.drop 0 x1)) fun x2 =>
 (rGet (D.str? x2) fun x3 =>
 (rAsk ((ByteArray.toList x3) == (ByteArray.toList w))
 (some (Ex.ret, (St.mk (mkT 0 19 [(2, (AV.dat (D.int IntKind.i64 i)))]) (Mem.mk [] [] 0))))
 (some (Ex.norm, (St.mk (mkT 0 19 [(0, (AV.dat (D.str w))), (3, (AV.dat (D.list LK.full 1 l))), (4, (AV.dat (D.int IntKind.i64 (IntKind.wrap IntKind.i64 (i + (1 : Int))))))]) (Mem.mk [] [] 0))))))))
 none)
 (some ((Ex.exit 0), (St.mk (mkT 0 19 []) (Mem.mk [] [] 0)))))
  := by kernel_rfl
theorem g48t_eq (w : ByteArray) : (g48t w).ev =
 (rGet (fnS (fun (zr : Row) => ((AV.dat (D.list LK.full 1 zr)), [])) (P225 [] [])) fun x1 =>
 (rAsk (Option.isSome (loS TT (TOrc.runs t248) (HSe 48) lp48w out48e (St.mk (mkT 0 19 [(0, (AV.dat (D.str w))), (3, (AV.dat (D.list LK.full 1 x1))), (4, (AV.dat (D.int IntKind.i64 (1 : Int))))]) (Mem.mk [] [] 0))))
 (rGet (loS TT (TOrc.runs t248) (HSe 48) lp48w out48e (St.mk (mkT 0 19 [(0, (AV.dat (D.str w))), (3, (AV.dat (D.list LK.full 1 x1))), (4, (AV.dat (D.int IntKind.i64 (1 : Int))))]) (Mem.mk [] [] 0))) fun _ =>
 (some ((AV.dat (D.int IntKind.i64 (0 : Int))), [])))
 (rGet (loS TT (TOrc.runs t248) (HSe 48) lp48w out48x (St.mk (mkT 0 19 [(0, (AV.dat (D.str w))), (3, (AV.dat (D.list LK.full 1 x1))), (4, (AV.dat (D.int IntKind.i64 (1 : Int))))]) (Mem.mk [] [] 0))) fun x3 =>
 (some ((AV.dat (D.int IntKind.i64 x3)), [])))))
  := by kernel_rfl
theorem g41t_eq (s : ByteArray) : (g41t s).ev =
 (rGet (fnS (fun (p : ByteArray × ByteArray × Bool) => ((AV.tup [(AV.dat (D.str p.1)), (AV.dat (D.str p.2.1)), (AV.dat (D.bool p.2.2))]), [(Ent.obj [(AV.dat (D.str s))])])) (S43 [(AV.dat (D.str s)), (AV.dat (D.str (ByteArray.mk (List.toArray [32]))))] [(Ent.obj [(AV.dat (D.str s))])])) fun x1 =>
 (some ((AV.dat (D.str x1.1)), [(Ent.obj [(AV.dat (D.str x1.2.1))])])))
  := by kernel_rfl
theorem g42t_eq (s : ByteArray) : (g42t s).ev =
 (rGet (fnS (fun (p : ByteArray × ByteArray) => ((AV.dat (D.str p.1)), [(Ent.obj [(AV.dat (D.str p.2))])])) (R241 [(AV.ptr (Ref.glob 0) 0)] [(Ent.obj [(AV.dat (D.str s))])])) fun x1 =>
 (rAsk (Option.isSome (fnS (fun (n : Int) => ((AV.tup [(AV.dat (D.int IntKind.i64 n)), AV.nili]), [(Ent.obj [(AV.dat (D.str x1.2))])])) (S45 [(AV.dat (D.str x1.1))] [(Ent.obj [(AV.dat (D.str x1.2))])])))
 (rGet (fnS (fun (n : Int) => ((AV.tup [(AV.dat (D.int IntKind.i64 n)), AV.nili]), [(Ent.obj [(AV.dat (D.str x1.2))])])) (S45 [(AV.dat (D.str x1.1))] [(Ent.obj [(AV.dat (D.str x1.2))])])) fun x2 =>
 (some ((AV.dat (D.int IntKind.i64 x2)), [(Ent.obj [(AV.dat (D.str x1.2))])])))
 (rGet (fnS (fun (n : Int) => ((AV.tup [(AV.dat (D.int IntKind.i64 n)), AV.err]), [(Ent.obj [(AV.dat (D.str x1.2))])])) (S45 [(AV.dat (D.str x1.1))] [(Ent.obj [(AV.dat (D.str x1.2))])])) fun _ =>
 (some ((AV.dat (D.int IntKind.i64 (0 : Int))), [(Ent.obj [(AV.dat (D.str x1.2))])])))))
  := by kernel_rfl
theorem g43t_eq (s : ByteArray) : (g43t s).ev =
 (rGet (fnS (fun (p : ByteArray × ByteArray) => ((AV.dat (D.str p.1)), [(Ent.obj [(AV.dat (D.str p.2))])])) (R241 [(AV.ptr (Ref.glob 0) 0)] [(Ent.obj [(AV.dat (D.str s))])])) fun x1 =>
 (rGet (fnS (fun (p : TK3 × Int) => ((AV.tup [(AV.dat (D.list p.1.1 p.1.2.1 p.1.2.2)), (AV.dat (D.int IntKind.i64 p.2))]), [(Ent.obj [(AV.dat (D.str x1.2))])])) (P213 [(AV.dat (D.str x1.1))] [(Ent.obj [(AV.dat (D.str x1.2))])])) fun x2 =>
 (rAsk (x2.2 != (0 : Int))
 (some ((AV.dat (D.list LK.nil 0 ([] : Row))), [(Ent.obj [(AV.dat (D.str x1.2))])]))
 (some ((AV.dat (D.list x2.1.1 x2.1.2.1 x2.1.2.2)), [(Ent.obj [(AV.dat (D.str x1.2))])])))))
  := by kernel_rfl
def stv (x : Stw) (lk : LK) (z : Nat) : AV := .agg (stC x.kind x.node x.at_ x.n (ba x.data) x.stop lk z (encB x.keep))
attribute [local irreducible] fnS loS tround P234 P213 S45 S43
theorem p218 {x y : Stw} {lk lk' : LK} {z z' : Nat} (h : x.keep.length ≤ 100000) (hz : x.keep ≠ [] → z = 1) (hz' : y.keep ≠ [] → z' = 1) (G : List Ent) : P218 [stv x lk z, stv y lk' z'] G = some (oB G (decide (x = y))) := by
  have key : ∀ o, (g18t x.kind x.node x.at_ x.n (ba x.data) x.stop lk z (encB x.keep) y.kind y.node y.at_ y.n (ba y.data) y.stop lk' z' (encB y.keep)).ev = o → R218 [stv x lk z, stv y lk' z'] [] = o := fun o h => by
    rw [Tr.ev_run] at h
    exact h
  unfold P218
  refine pureS_eq (G0 := []) rfl (key _ ?_) rfl
  rw [g18t_eq]
  by_cases h1 : x.kind = y.kind
  case neg => exact aF (by simp [h1]) (by rw [decide_eq_false fun e => h1 (congrArg Stw.kind e)])
  refine aT (by simp [h1]) ?_
  by_cases h2 : x.node = y.node
  case neg => exact aF (by simp [h2]) (by rw [decide_eq_false fun e => h2 (congrArg Stw.node e)])
  refine aT (by simp [h2]) ?_
  by_cases h3 : x.at_ = y.at_
  case neg => exact aF (by simp [h3]) (by rw [decide_eq_false fun e => h3 (congrArg Stw.at_ e)])
  refine aT (by simp [h3]) ?_
  by_cases h4 : x.n = y.n
  case neg => exact aF (by simp [h4]) (by rw [decide_eq_false fun e => h4 (congrArg Stw.n e)])
  refine aT (by simp [h4]) ?_
  by_cases h5 : x.stop = y.stop
  case neg => exact aF (by simp [h5]) (by rw [decide_eq_false fun e => h5 (congrArg Stw.stop e)])
  refine aT (by simp [h5]) ?_
  by_cases h6 : x.data = y.data
  case neg => exact aF (by rw [sameB]; simp [h6]) (by rw [decide_eq_false fun e => h6 (congrArg Stw.data e)])
  refine aT (by rw [sameB]; simp [h6]) (gStep (fnS_eq (out := oB []) oB_inj (p234 h hz hz' [])) ?_)
  have e : (decide (x = y)) = decide (x.keep = y.keep) := by
    rw [Bool.eq_iff_iff, decide_eq_true_eq, decide_eq_true_eq]
    constructor
    · rintro rfl; rfl
    · intro h7
      obtain ⟨_, _, _, _, _, _, _⟩ := x
      obtain ⟨_, _, _, _, _, _, _⟩ := y
      simp only at h1 h2 h3 h4 h5 h6 h7
      subst h1 h2 h3 h4 h5 h6 h7
      rfl
  rw [e]
/-! ### Same -/
def res10 (c : Bool) (st : St) : Prop := if c = true then LoopTo TT tNone.runs (HSe 10) lp10s st (out10e ()) else LoopTo TT tNone.runs (HSe 10) lp10s st (out10x ())
theorem go10s {k nd a n : Int} {d : ByteArray} {s : Int} {lk : LK} {z : Nat} {l : Row} {k' nd' a' n' : Int} {d' : ByteArray} {s' : Int} {lk' : LK} {z' : Nat} {l' : Row} {i : Int} {o} (h : (rk10s k nd a n d s lk z l k' nd' a' n' d' s' lk' z' l' i).ev = o) :
    (tround TT tNone noLo (HSe 10) lp10s (inv10s (stC k nd a n d s lk z l) (stC k' nd' a' n' d' s' lk' z' l') i)).run = o := by
  rw [Tr.ev_run] at h
  exact h
theorem loop10s {k nd a n : Int} {d : ByteArray} {s : Int} {lk : LK} {k' nd' a' n' : Int} {d' : ByteArray} {s' : Int} {lk' : LK} : ∀ (l r p q : List Bool), l.length = r.length → p.length = q.length → (p ++ l).length ≤ 100000 →
    res10 (decide (l = r)) (inv10s (stC k nd a n d s lk 1 (encB (p ++ l))) (stC k' nd' a' n' d' s' lk' 1 (encB (q ++ r))) p.length)
  | [], [], p, q, _, _, _ => by
    unfold res10
    rw [decide_eq_true rfl, if_pos rfl]
    refine LoopTo.last (orc := tNone) (lo := noLo) (fun _ _ _ _ h => h) (LoOk2.no _) (go10s ?_) (by simp [out10e])
    rw [rk10s_eq, List.append_nil]
    exact aF (by rw [decide_eq_false_iff_not, encB_len]; omega) rfl
  | a1 :: l, b :: r, p, q, hlr, hpq, h => by
    have hl := h
    rw [List.length_append, List.length_cons] at hl
    rw [List.length_cons, List.length_cons] at hlr
    have hb : ((decide (1 = 1)) && ((decide ((0 : Int) ≤ ((p.length : Nat) : Int))) && (decide (((p.length : Nat) : Int) < (((encB (p ++ a1 :: l)).length : Nat) : Int))))) = true := by
      rw [encB_len, List.length_append, List.length_cons]
      simp only [Bool.and_eq_true, decide_eq_true_eq, true_and]; omega
    have hb' : ((decide (1 = 1)) && ((decide ((0 : Int) ≤ ((p.length : Nat) : Int))) && (decide (((p.length : Nat) : Int) < (((encB (q ++ b :: r)).length : Nat) : Int))))) = true := by
      rw [encB_len, List.length_append, List.length_cons]
      simp only [Bool.and_eq_true, decide_eq_true_eq, true_and]; omega
    have a0 : decide (((p.length : Nat) : Int) < (((encB (p ++ a1 :: l)).length : Nat) : Int)) = true := by rw [decide_eq_true_eq, encB_len, List.length_append, List.length_cons]; omega
    have hat := encB_at q b r
    rw [← hpq] at hat
    by_cases e : a1 = b
    · subst e
      have step : (tround TT tNone noLo (HSe 10) lp10s (inv10s (stC k nd a n d s lk 1 (encB (p ++ a1 :: l))) (stC k' nd' a' n' d' s' lk' 1 (encB (q ++ a1 :: r))) p.length)).run = some (.norm, inv10s (stC k nd a n d s lk 1 (encB (p ++ a1 :: l))) (stC k' nd' a' n' d' s' lk' 1 (encB (q ++ a1 :: r))) ((p.length + 1 : Nat) : Int)) := by
        refine go10s ?_
        rw [rk10s_eq, w64 (n := p.length + 1) (by omega) (x := ((p.length : Nat) : Int) + 1) (by omega)]
        exact aT a0 (aT hb (gStep (encB_at p a1 l) (gStep rfl (aT hb' (gStep hat (gStep rfl (gStep (x := a1) rfl (gStep (x := a1) rfl (aF (by simp) rfl)))))))))
      have ih := loop10s (k := k) (nd := nd) (a := a) (n := n) (d := d) (s := s) (lk := lk) (k' := k') (nd' := nd') (a' := a') (n' := n') (d' := d') (s' := s') (lk' := lk') l r (p ++ [a1]) (q ++ [a1]) (by omega) (by simp [hpq]) (by simpa using h)
      rw [show p ++ [a1] ++ l = p ++ a1 :: l by simp, show q ++ [a1] ++ r = q ++ a1 :: r by simp, show List.length (p ++ [a1]) = p.length + 1 by simp] at ih
      unfold res10 at ih ⊢
      rw [show decide (a1 :: l = a1 :: r) = decide (l = r) by simp]
      split at ih
      · rename_i c
        rw [if_pos c]
        exact LoopTo.more (orc := tNone) (lo := noLo) (fun _ _ _ _ h => h) (LoOk2.no _) step ih
      · rename_i c
        rw [if_neg c]
        exact LoopTo.more (orc := tNone) (lo := noLo) (fun _ _ _ _ h => h) (LoOk2.no _) step ih
    · unfold res10
      rw [if_neg (by simp [e])]
      refine LoopTo.last (orc := tNone) (lo := noLo) (fun _ _ _ _ h => h) (LoOk2.no _) (go10s ?_) (by simp [out10x])
      rw [rk10s_eq]
      exact aT a0 (aT hb (gStep (encB_at p a1 l) (gStep rfl (aT hb' (gStep hat (gStep rfl (gStep (x := a1) rfl (gStep (x := b) rfl (aT (by cases a1 <;> cases b <;> simp_all) rfl)))))))))
theorem out10e_inj : ∀ x y, out10e x = out10e y → x = y := fun _ _ _ => rfl
theorem out10x_inj : ∀ x y, out10x x = out10x y → x = y := fun _ _ _ => rfl
theorem out10_no {y : Unit} : ∀ x, out10e x ≠ out10x y := fun x h => by simp [out10e, out10x] at h
theorem p210 {x y : Stw} {lk lk' : LK} {z z' : Nat} (h : x.keep.length ≤ 100000) (hz : x.keep ≠ [] → z = 1) (hz' : y.keep ≠ [] → z' = 1) (G : List Ent) : P210 [stv x lk z, stv y lk' z'] G = some (oB G (decide (x = y))) := by
  have key : ∀ o, (g10t x.kind x.node x.at_ x.n (ba x.data) x.stop lk z (encB x.keep) y.kind y.node y.at_ y.n (ba y.data) y.stop lk' z' (encB y.keep)).ev = o → R210 [stv x lk z, stv y lk' z'] [] = o := fun o h => by
    rw [Tr.ev_run] at h
    exact h
  unfold P210
  refine pureS_eq (G0 := []) rfl (key _ ?_) rfl
  rw [g10t_eq, encB_len, encB_len]
  by_cases h1 : x.kind = y.kind
  case neg => exact aT (by simp [h1]) (by rw [decide_eq_false fun e => h1 (congrArg Stw.kind e)])
  refine aF (by simp [h1]) ?_
  by_cases h2 : x.node = y.node
  case neg => exact aT (by simp [h2]) (by rw [decide_eq_false fun e => h2 (congrArg Stw.node e)])
  refine aF (by simp [h2]) ?_
  by_cases h3 : x.at_ = y.at_
  case neg => exact aT (by simp [h3]) (by rw [decide_eq_false fun e => h3 (congrArg Stw.at_ e)])
  refine aF (by simp [h3]) ?_
  by_cases h4 : x.n = y.n
  case neg => exact aT (by simp [h4]) (by rw [decide_eq_false fun e => h4 (congrArg Stw.n e)])
  refine aF (by simp [h4]) ?_
  by_cases h6 : x.data = y.data
  case neg => exact aT (by rw [sameB]; simp [h6]) (by rw [decide_eq_false fun e => h6 (congrArg Stw.data e)])
  refine aF (by rw [sameB]; simp [h6]) ?_
  by_cases h5 : x.stop = y.stop
  case neg => exact aT (by simp [h5]) (by rw [decide_eq_false fun e => h5 (congrArg Stw.stop e)])
  refine aF (by simp [h5]) ?_
  by_cases hlen : x.keep.length = y.keep.length
  case neg => exact aT (by rw [bne_iff_ne]; omega) (by rw [decide_eq_false fun e => hlen (congrArg (fun q => q.keep.length) e)])
  refine aF (by rw [hlen]; simp) ?_
  have e : (decide (x = y)) = decide (x.keep = y.keep) := by
    rw [Bool.eq_iff_iff, decide_eq_true_eq, decide_eq_true_eq]
    constructor
    · rintro rfl; rfl
    · intro h7
      obtain ⟨_, _, _, _, _, _, _⟩ := x
      obtain ⟨_, _, _, _, _, _, _⟩ := y
      simp only at h1 h2 h3 h4 h5 h6 h7
      subst h1 h2 h3 h4 h5 h6 h7
      rfl
  rw [e]
  have hlo : res10 (decide (x.keep = y.keep)) (inv10s (stC x.kind x.node x.at_ x.n (ba x.data) x.stop lk z (encB x.keep)) (stC y.kind y.node y.at_ y.n (ba y.data) y.stop lk' z' (encB y.keep)) 0) := by
    cases hx : x.keep with
    | nil =>
      cases hy : y.keep with
      | nil =>
        unfold res10
        rw [decide_eq_true rfl, if_pos rfl]
        refine LoopTo.last (orc := tNone) (lo := noLo) (fun _ _ _ _ h => h) (LoOk2.no _) (go10s ?_) (by simp [out10e])
        rw [rk10s_eq]
        exact aF rfl rfl
      | cons b r => rw [hx, hy] at hlen; simp at hlen
    | cons a1 l =>
      cases hy : y.keep with
      | nil => rw [hx, hy] at hlen; simp at hlen
      | cons b r =>
        obtain rfl := hz (by rw [hx]; simp)
        obtain rfl := hz' (by rw [hy]; simp)
        rw [hx, hy] at hlen
        rw [hx] at h
        exact loop10s (a1 :: l) (b :: r) [] [] hlen rfl h
  unfold res10 at hlo
  split at hlo
  · rename_i c
    rw [c]
    exact aT (loS_yes (o1 := out10e) out10e_inj hlo) (gStep (loS_eq (out := out10e) out10e_inj hlo) rfl)
  · rename_i c
    rw [show decide (x.keep = y.keep) = false by simpa using c]
    exact aF (loS_no (o1 := out10e) hlo out10_no) (gStep (loS_eq (out := out10x) out10x_inj hlo) rfl)
/-! ### words of kinds -/
def findO (w : List UInt8) : List (List UInt8) → Nat → Option Nat
  | [], _ => none
  | v :: l, i => if w = v then some i else findO w l (i + 1)
theorem kindFind_eq (w : List UInt8) : ∀ (l : List (List UInt8)) (i : Nat), kindFind w l i = match findO w l i with
    | some j => ((j : Nat) : Int)
    | none => 0
  | [], i => rfl
  | v :: l, i => by
    unfold kindFind findO
    split
    · rfl
    · exact kindFind_eq w l (i + 1)
theorem sRow_length (ws : List (List UInt8)) : (sRow ws).length = ws.length := by simp [sRow]
theorem sRow_mid {pre ws : List (List UInt8)} {w : List UInt8} : (sRow (pre ++ w :: ws))[Int.toNat ((pre.length : Nat) : Int)]? = some [.str (ba w)] := by
  rw [Int.toNat_natCast, sRow, List.getElem?_map]
  simp
theorem p220 (G : List Ent) : P220 [] G = some (oRw G (sRow kindsW)) := pure_of (by kernel_rfl)
theorem p225 (G : List Ent) : P225 [] G = some (oRw G (sRow kindsW)) := pure_of (by kernel_rfl)
theorem go44w {l : Row} {w : ByteArray} {m i : Int} {o} (h : (rk44w l w m i).ev = o) : (tround TT tNone noLo (HSe 44) lp44w (inv44w l w m i)).run = o := by
  rw [Tr.ev_run] at h
  exact h
def res44 (o : Option Nat) (st : St) : Prop := match o with
  | none => LoopTo TT tNone.runs (HSe 44) lp44w st (out44e ())
  | some j => LoopTo TT tNone.runs (HSe 44) lp44w st (out44x ((j : Nat) : Int))
theorem loop44w {w : List UInt8} : ∀ (ws pre : List (List UInt8)), (pre ++ ws).length ≤ 1000 → res44 (findO w ws pre.length) (inv44w (sRow (pre ++ ws)) (ba w) ((pre ++ ws).length : Nat) pre.length)
  | [], pre, _ => by
    refine LoopTo.last (orc := tNone) (lo := noLo) (s1 := ⟨mkT 0 19 [], ⟨[], [], 0⟩⟩) (fun _ _ _ _ h => h) (LoOk2.no _) (go44w ?_) (by simp)
    rw [rk44w_eq, List.append_nil]
    exact aF (by rw [decide_eq_false_iff_not]; omega) rfl
  | v :: ws, pre, h => by
    have hlen : (pre ++ v :: ws).length = pre.length + ws.length + 1 := by rw [List.length_append, List.length_cons]; omega
    have a0 : decide (((pre.length : Nat) : Int) < (((pre ++ v :: ws).length : Nat) : Int)) = true := by rw [decide_eq_true_eq]; omega
    have hb : (true && ((decide ((0 : Int) ≤ ((pre.length : Nat) : Int))) && (decide (((pre.length : Nat) : Int) < (((sRow (pre ++ v :: ws)).length : Nat) : Int))))) = true := by
      rw [sRow_length]
      simp only [Bool.true_and, Bool.and_eq_true, decide_eq_true_eq]; omega
    unfold findO
    by_cases hv : w = v
    · rw [if_pos hv]
      refine LoopTo.last (orc := tNone) (lo := noLo) (s1 := ⟨mkT 0 19 [(4, jn ((pre.length : Nat) : Int))], ⟨[], [], 0⟩⟩) (fun _ _ _ _ h => h) (LoOk2.no _) (go44w ?_) (by simp)
      rw [rk44w_eq]
      exact aT a0 (aT hb (gStep sRow_mid (gStep rfl (gStep (x := ba v) rfl (aT (by rw [sameB]; exact decide_eq_true hv) rfl)))))
    · rw [if_neg hv]
      have step : (tround TT tNone noLo (HSe 44) lp44w (inv44w (sRow (pre ++ v :: ws)) (ba w) ((pre ++ v :: ws).length : Nat) pre.length)).run = some (.norm, inv44w (sRow (pre ++ v :: ws)) (ba w) ((pre ++ v :: ws).length : Nat) ((pre.length + 1 : Nat) : Int)) := by
        refine go44w ?_
        rw [rk44w_eq, w64 (n := pre.length + 1) (by omega) (x := ((pre.length : Nat) : Int) + 1) (by omega)]
        exact aT a0 (aT hb (gStep sRow_mid (gStep rfl (gStep (x := ba v) rfl (aF (by rw [sameB]; exact decide_eq_false hv) rfl)))))
      have ih := loop44w (w := w) ws (pre ++ [v]) (by simpa using h)
      rw [show pre ++ [v] ++ ws = pre ++ v :: ws by simp, show List.length (pre ++ [v]) = pre.length + 1 by simp] at ih
      unfold res44 at ih ⊢
      split at ih
      · exact LoopTo.more (orc := tNone) (lo := noLo) (fun _ _ _ _ h => h) (LoOk2.no _) step ih
      · exact LoopTo.more (orc := tNone) (lo := noLo) (fun _ _ _ _ h => h) (LoOk2.no _) step ih
theorem out44e_inj : ∀ x y, out44e x = out44e y → x = y := fun _ _ _ => rfl
theorem out44x_inj : ∀ x y, out44x x = out44x y → x = y := by
  intro x y h
  simp [out44x, jn, mkT] at h
  exact h
theorem out44_no {y : Int} : ∀ x, out44e x ≠ out44x y := fun x h => by simp [out44e, out44x] at h
def idxW (w : List UInt8) : Int := match findO w kindsW 0 with
  | some j => ((j : Nat) : Int)
  | none => -1
theorem p244 (w : List UInt8) (G : List Ent) : P244 [.dat (.list .full 1 (sRow kindsW)), .dat (.str (ba w))] G = some (oI G (idxW w)) := by
  have key : ∀ o, (g44t (sRow kindsW) (ba w)).ev = o → R244 [.dat (.list .full 1 (sRow kindsW)), .dat (.str (ba w))] [] = o := fun o h => by
    rw [Tr.ev_run] at h
    exact h
  have hl := loop44w (w := w) kindsW [] (by decide)
  unfold P244
  refine pureS_eq (G0 := []) rfl (key _ ?_) rfl
  rw [g44t_eq, sRow_length]
  unfold idxW
  unfold res44 at hl
  rw [List.length_nil, List.nil_append] at hl
  split at hl
  · rename_i q
    rw [q]
    exact aT (loS_yes (o1 := out44e) out44e_inj hl) (gStep (loS_eq (out := out44e) out44e_inj hl) rfl)
  · rename_i j q
    rw [q]
    exact aF (loS_no (o1 := out44e) hl out44_no) (gStep (loS_eq (out := out44x) out44x_inj hl) rfl)
theorem idx_max (w : List UInt8) : (if idxW w > 0 then idxW w else 0) = kindOf w := by
  unfold kindOf idxW
  rw [kindFind_eq]
  cases findO w kindsW 0 with
  | none => rfl
  | some j =>
    show (if ((j : Nat) : Int) > 0 then ((j : Nat) : Int) else 0) = ((j : Nat) : Int)
    split <;> omega
theorem go48w {w : ByteArray} {l : Row} {i : Int} {o} (h : (rk48w w l i).ev = o) : (tround TT t248 noLo (HSe 48) lp48w (inv48w w l i)).run = o := by
  rw [Tr.ev_run] at h
  exact h
def res48 (o : Option Nat) (st : St) : Prop := match o with
  | none => LoopTo TT t248.runs (HSe 48) lp48w st (out48e ())
  | some j => LoopTo TT t248.runs (HSe 48) lp48w st (out48x ((j : Nat) : Int))
theorem loop48w {w : List UInt8} : ∀ (ws pre : List (List UInt8)), (pre ++ ws).length ≤ 1000 → res48 (findO w ws pre.length) (inv48w (ba w) (sRow (pre ++ ws)) pre.length)
  | [], pre, _ => by
    refine LoopTo.last (orc := t248) (lo := noLo) (s1 := ⟨mkT 0 19 [], ⟨[], [], 0⟩⟩) (fun _ _ _ _ h => h) (LoOk2.no _) (go48w ?_) (by simp)
    rw [rk48w_eq, List.append_nil, sRow_length]
    exact aF (by rw [decide_eq_false_iff_not]; omega) rfl
  | v :: ws, pre, h => by
    have hlen : (pre ++ v :: ws).length = pre.length + ws.length + 1 := by rw [List.length_append, List.length_cons]; omega
    have a0 : decide (((pre.length : Nat) : Int) < (((sRow (pre ++ v :: ws)).length : Nat) : Int)) = true := by rw [decide_eq_true_eq, sRow_length]; omega
    have hb : (true && ((decide ((0 : Int) ≤ ((pre.length : Nat) : Int))) && (decide (((pre.length : Nat) : Int) < (((sRow (pre ++ v :: ws)).length : Nat) : Int))))) = true := by
      rw [sRow_length]
      simp only [Bool.true_and, Bool.and_eq_true, decide_eq_true_eq]; omega
    unfold findO
    by_cases hv : w = v
    · rw [if_pos hv]
      refine LoopTo.last (orc := t248) (lo := noLo) (s1 := ⟨mkT 0 19 [(2, jn ((pre.length : Nat) : Int))], ⟨[], [], 0⟩⟩) (fun _ _ _ _ h => h) (LoOk2.no _) (go48w ?_) (by simp)
      rw [rk48w_eq]
      exact aT a0 (aT hb (gStep sRow_mid (gStep rfl (gStep (x := ba v) rfl (aT (by rw [sameB]; exact decide_eq_true hv.symm) rfl)))))
    · rw [if_neg hv]
      have step : (tround TT t248 noLo (HSe 48) lp48w (inv48w (ba w) (sRow (pre ++ v :: ws)) pre.length)).run = some (.norm, inv48w (ba w) (sRow (pre ++ v :: ws)) ((pre.length + 1 : Nat) : Int)) := by
        refine go48w ?_
        rw [rk48w_eq, w64 (n := pre.length + 1) (by omega) (x := ((pre.length : Nat) : Int) + 1) (by omega)]
        exact aT a0 (aT hb (gStep sRow_mid (gStep rfl (gStep (x := ba v) rfl (aF (by rw [sameB]; exact decide_eq_false fun e => hv e.symm) rfl)))))
      have ih := loop48w (w := w) ws (pre ++ [v]) (by simpa using h)
      rw [show pre ++ [v] ++ ws = pre ++ v :: ws by simp, show List.length (pre ++ [v]) = pre.length + 1 by simp] at ih
      unfold res48 at ih ⊢
      split at ih
      · exact LoopTo.more (orc := t248) (lo := noLo) (fun _ _ _ _ h => h) (LoOk2.no _) step ih
      · exact LoopTo.more (orc := t248) (lo := noLo) (fun _ _ _ _ h => h) (LoOk2.no _) step ih
theorem out48e_inj : ∀ x y, out48e x = out48e y → x = y := fun _ _ _ => rfl
theorem out48x_inj : ∀ x y, out48x x = out48x y → x = y := by
  intro x y h
  simp [out48x, jn, mkT] at h
  exact h
theorem out48_no {y : Int} : ∀ x, out48e x ≠ out48x y := fun x h => by simp [out48e, out48x] at h
attribute [local irreducible] P225
theorem p248 (w : List UInt8) (G : List Ent) : P248 [.dat (.str (ba w))] G = some (oI G (kindOf w)) := by
  have key : ∀ o, (g48t (ba w)).ev = o → R248 [.dat (.str (ba w))] [] = o := fun o h => by
    rw [Tr.ev_run] at h
    exact h
  have hl := loop48w (w := w) (kindsW.drop 1) [[]] (by decide)
  change res48 (findO w (kindsW.drop 1) 1) (inv48w (ba w) (sRow kindsW) 1) at hl
  have hk : kindOf w = match findO w (kindsW.drop 1) 1 with
      | some j => ((j : Nat) : Int)
      | none => 0 := by
    rw [← kindFind_eq]
    show kindFind w ([] :: kindsW.drop 1) 0 = _
    rw [kindFind]
    split
    · rename_i e
      rw [e]
      decide
    · rfl
  unfold P248
  refine pureS_eq (G0 := []) rfl (key _ ?_) rfl
  rw [g48t_eq, hk]
  refine gStep (fnS_eq (out := oRw []) oRw_inj (p225 [])) ?_
  unfold res48 at hl
  split at hl
  · rename_i q
    rw [q]
    exact aT (loS_yes (o1 := out48e) out48e_inj hl) (gStep (loS_eq (out := out48e) out48e_inj hl) rfl)
  · rename_i j q
    rw [q]
    exact aF (loS_no (o1 := out48e) hl out48_no) (gStep (loS_eq (out := out48x) out48x_inj hl) rfl)
/-! ### the taker -/
theorem oTw_inj {G : List Ent} : ∀ x y, oTw G x = oTw G y → x = y := by
  rintro ⟨a, b⟩ ⟨c, d⟩ h
  simp [oTw, gTk] at h
  obtain ⟨rfl, rfl⟩ := h
  rfl
theorem oTn_inj {G : List Ent} : ∀ x y, oTn G x = oTn G y → x = y := by
  rintro ⟨a, b⟩ ⟨c, d⟩ h
  simp [oTn, gTk, jn] at h
  obtain ⟨rfl, rfl⟩ := h
  rfl
theorem oTk_inj {G : List Ent} : ∀ x y, oTk G x = oTk G y → x = y := by
  rintro ⟨⟨a, b, c⟩, d⟩ ⟨⟨a', b', c'⟩, d'⟩ h
  simp [oTk, gTk] at h
  obtain ⟨⟨rfl, rfl, rfl⟩, rfl⟩ := h
  rfl
theorem s43_32 {w : List UInt8} (h : w.length ≤ 100000) (G : List Ent) : S43 [.dat (.str (ba w)), .dat (.str (ByteArray.mk (List.toArray [32])))] G = some (oC G (ba (wordR w).1, ba (wordR w).2, (cut1 32 w).2.2)) := by
  simp only [S43, sCut1]
  rw [if_pos (by rw [ba_sz]; omega)]
  rfl
theorem r241 {s : List UInt8} (h : s.length ≤ 100000) (G : List Ent) : R241 [.ptr (.glob 0) 0] (gTk (ba s)) = some (oTw G (ba (wordR s).1, ba (wordR s).2)) := by
  have key : ∀ o, (g41t (ba s)).ev = o → R241 [.ptr (.glob 0) 0] (gTk (ba s)) = o := fun o h => by
    rw [Tr.ev_run] at h
    exact h
  refine key _ ?_
  rw [g41t_eq]
  exact gStep (fnS_eq (out := oC (gTk (ba s))) oC_inj (s43_32 h (gTk (ba s)))) rfl
theorem wordR_le (s : List UInt8) : (wordR s).1.length ≤ s.length ∧ (wordR s).2.length ≤ s.length := cut1_len 32 s
attribute [local irreducible] R241
theorem r242 {s : List UInt8} (h : s.length ≤ 100000) (G : List Ent) : R242 [.ptr (.glob 0) 0] (gTk (ba s)) = some (oTn G (numP (wordR s).1, ba (wordR s).2)) := by
  have key : ∀ o, (g42t (ba s)).ev = o → R242 [.ptr (.glob 0) 0] (gTk (ba s)) = o := fun o h => by
    rw [Tr.ev_run] at h
    exact h
  refine key _ ?_
  rw [g42t_eq]
  refine gStep (fnS_eq (out := oTw (gTk (ba s))) oTw_inj (r241 h (gTk (ba s)))) ?_
  have hw := (wordR_le s).1
  have hc : (ba (wordR s).1).size ≤ 281474976710656 := by rw [ba_sz]; omega
  have hd : (ba (wordR s).1).data.toList = (wordR s).1 := rfl
  have inA : ∀ {G : List Ent}, ∀ x y, oAo G x = oAo G y → x = y := by intro G x y h; simpa [oAo, jn] using h
  have inE : ∀ {G : List Ent}, ∀ x y, oAe G x = oAe G y → x = y := by intro G x y h; simpa [oAe, jn] using h
  have noA : ∀ {G : List Ent} {y : Int}, ∀ x, oAo G x ≠ oAe G y := fun x h => by simp [oAo, oAe] at h
  unfold numP
  cases ha : Go.Lib.atoiAll (wordR s).1 with
  | ok v =>
    have e : S45 [.dat (.str (ba (wordR s).1))] (gTk (ba (wordR s).2)) = some (oAo (gTk (ba (wordR s).2)) v) := by
      simp only [S45, sAtoiA]
      rw [if_pos hc, hd, ha]
      rfl
    exact aT (fnS_yes (o1 := oAo (gTk (ba (wordR s).2))) inA e) (gStep (fnS_eq (out := oAo (gTk (ba (wordR s).2))) inA e) rfl)
  | _ =>
    first
      | (have e : S45 [.dat (.str (ba (wordR s).1))] (gTk (ba (wordR s).2)) = some (oAe (gTk (ba (wordR s).2)) 0) := by
          simp only [S45, sAtoiA]
          rw [if_pos hc, hd, ha]
          rfl
         exact aF (fnS_no e noA) (gStep (fnS_eq (out := oAe (gTk (ba (wordR s).2))) inE e) rfl))
      | (have e : S45 [.dat (.str (ba (wordR s).1))] (gTk (ba (wordR s).2)) = some (oAe (gTk (ba (wordR s).2)) (Go.Lib.atoiSat (wordR s).1)) := by
          simp only [S45, sAtoiA]
          rw [if_pos hc, hd, ha]
          rfl
         exact aF (fnS_no e noA) (gStep (fnS_eq (out := oAe (gTk (ba (wordR s).2))) inE e) rfl))
def kvL (l : List Bool) : TK3 := match l with
  | [] => (.nil, 0, [])
  | b :: l => (.any, 1, encB (b :: l))
theorem r243 {s : List UInt8} (h : s.length ≤ 100000) (G : List Ent) : R243 [.ptr (.glob 0) 0] (gTk (ba s)) = some (oTk G (kvL (keptD (wordR s).1), ba (wordR s).2)) := by
  have key : ∀ o, (g43t (ba s)).ev = o → R243 [.ptr (.glob 0) 0] (gTk (ba s)) = o := fun o h => by
    rw [Tr.ev_run] at h
    exact h
  refine key _ ?_
  rw [g43t_eq]
  have hw := (wordR_le s).1
  refine gStep (fnS_eq (out := oTw (gTk (ba s))) oTw_inj (r241 h (gTk (ba s)))) (gStep (fnS_eq (out := oKp (gTk (ba (wordR s).2))) oKp_inj (p213 (by omega) (gTk (ba (wordR s).2)))) ?_)
  unfold keptD
  cases kept (wordR s).1 with
  | none => exact aT rfl rfl
  | some l =>
    cases l with
    | nil => exact aF rfl rfl
    | cons b l => exact aF rfl rfl
end Go.Eng
end

/- Steps as lines: WordsKeep's law, as a tree. -/
section
namespace Go.Eng
open Go
set_option maxRecDepth 100000

noncomputable def S12 : Spec := sKeep
noncomputable def t205 : TOrc := tCons 6 (fun a G => tspec (oT G) (P105 a G)) (tCons 12 (fun a G => tspec (oS G) (S12 a G)) (tCons 13 (fun a G => tspec (oKp G) (P213 a G)) (tCons 14 (fun a G => tspec (oKp G) (P214 a G)) (tCons 15 (fun a G => tspec (oS G) (P215 a G)) tNone))))
noncomputable def f5kt (k : LK) (z : Nat) (l : Row) (s : ByteArray) : Tr (AV × List Ent) := tfn TT t205 noLo Go.Proofs.Tryz.f5 [.dat (.list k z l), .dat (.str s)] []
noncomputable def R205 (a : List AV) (G : List Ent) : Option (AV × List Ent) := (tfn TT t205 noLo Go.Proofs.Tryz.f5 a G).run
end Go.Eng
end

/- Steps as lines: WordsKeep's law answers true. -/
section
namespace Go.Eng
open Go
set_option maxRecDepth 100000
set_option linter.unusedSimpArgs false

theorem f5kt_eq (k : LK) (z : Nat) (l : Row) (s : ByteArray) : (f5kt k z l s).ev =
 (rAsk (decide ((((List.length l) : Nat) : Int) > (400 : Int)))
 (rGet (fnS (fun (x : Unit) => ((AV.dat (D.bool true)), [])) (P105 [] [])) fun _ =>
 (some ((AV.dat (D.bool true)), [])))
 (rAsk (decide ((((ByteArray.size s) : Nat) : Int) > (400 : Int)))
 (rGet (fnS (fun (x : Unit) => ((AV.dat (D.bool true)), [])) (P105 [] [])) fun _ =>
 (some ((AV.dat (D.bool true)), [])))
 (rGet (fnS (fun (zs : ByteArray) => ((AV.dat (D.str zs)), [])) (S12 [(AV.dat (D.list k z l))] [])) fun x3 =>
 (rGet (fnS (fun (p : TK3 × Int) => ((AV.tup [(AV.dat (D.list p.1.1 p.1.2.1 p.1.2.2)), (AV.dat (D.int IntKind.i64 p.2))]), [])) (P213 [(AV.dat (D.str s))] [])) fun x4 =>
 (rGet (fnS (fun (p : TK3 × Int) => ((AV.tup [(AV.dat (D.list p.1.1 p.1.2.1 p.1.2.2)), (AV.dat (D.int IntKind.i64 p.2))]), [])) (P214 [(AV.dat (D.str s))] [])) fun x5 =>
 (rGet (fnS (fun (p : TK3 × Int) => ((AV.tup [(AV.dat (D.list p.1.1 p.1.2.1 p.1.2.2)), (AV.dat (D.int IntKind.i64 p.2))]), [])) (P213 [(AV.dat (D.str x3))] [])) fun x6 =>
 (rGet (fnS (fun (zs : ByteArray) => ((AV.dat (D.str zs)), [])) (P215 [(AV.dat (D.list k z l))] [])) fun x7 =>
 (rAsk ((ByteArray.toList x3) == (ByteArray.toList x7))
 (rGet (fnS (fun (zs : ByteArray) => ((AV.dat (D.str zs)), [])) (P215 [(AV.dat (D.list x4.1.1 x4.1.2.1 x4.1.2.2))] [])) fun x8 =>
 (rGet (fnS (fun (zs : ByteArray) => ((AV.dat (D.str zs)), [])) (P215 [(AV.dat (D.list x5.1.1 x5.1.2.1 x5.1.2.2))] [])) fun x9 =>
 (rAsk ((ByteArray.toList x8) == (ByteArray.toList x9))
 (rAsk (x4.2 == x5.2)
 (rAsk (x6.2 == (0 : Int))
 (rGet (fnS (fun (zs : ByteArray) => ((AV.dat (D.str zs)), [])) (P215 [(AV.dat (D.list x6.1.1 x6.1.2.1 x6.1.2.2))] [])) fun x10 =>
 (rGet (fnS (fun (zs : ByteArray) => ((AV.dat (D.str zs)), [])) (P215 [(AV.dat (D.list k z l))] [])) fun x11 =>
 (rAsk ((ByteArray.toList x10) == (ByteArray.toList x11))
 (rAsk (x5.2 != (0 : Int))
 (rGet (fnS (fun (x : Unit) => ((AV.dat (D.bool true)), [])) (P105 [] [])) fun _ =>
 (some ((AV.dat (D.bool true)), [])))
 (rGet (fnS (fun (zs : ByteArray) => ((AV.dat (D.str zs)), [])) (S12 [(AV.dat (D.list x4.1.1 x4.1.2.1 x4.1.2.2))] [])) fun x13 =>
 (rAsk ((ByteArray.toList x13) == (ByteArray.toList s))
 (rGet (fnS (fun (x : Unit) => ((AV.dat (D.bool true)), [])) (P105 [] [])) fun _ =>
 (some ((AV.dat (D.bool true)), [])))
 (some ((AV.dat (D.bool false)), [])))))
 (some ((AV.dat (D.bool false)), [])))))
 (some ((AV.dat (D.bool false)), [])))
 (some ((AV.dat (D.bool false)), [])))
 (some ((AV.dat (D.bool false)), [])))))
 (some ((AV.dat (D.bool false)), []))))))))))
  := by kernel_rfl
/-! ### contracts -/
theorem loV13_ok : ∀ c, Go.Proofs.Tryz.f13.body = some c → LoOk2 TT t213.runs (HSe 13) lo13 c := lo_one (lp := lp13) (by kernel_rfl) fun st r h => by
  rw [show firstRegion lp13 = 7 from by kernel_rfl] at h
  exact tlo_ok h
theorem cV13 : COk PP 13 R213 := tok_fn (H := HSe 13) TT_ok (TOk.cons (COk.spec (out := fun _ G => oS G) cTrim) TOk.nil) Go.Proofs.Tryz.func13 (by kernel_rfl) loV13_ok
theorem loV14_ok : ∀ c, Go.Proofs.Tryz.f14.body = some c → LoOk2 TT tNone.runs (HSe 14) lo14 c := lo_one (lp := lp14) (by kernel_rfl) fun st r h => by
  rw [show firstRegion lp14 = 5 from by kernel_rfl] at h
  exact tlo3_ok h
theorem cV14 : COk PP 14 R214 := tok_fn (H := HSe 14) TT_ok TOk.nil Go.Proofs.Tryz.func14 (by kernel_rfl) loV14_ok
theorem loV15_ok : ∀ c, Go.Proofs.Tryz.f15.body = some c → LoOk2 TT tNone.runs (HSe 15) lo15 c := lo_one (lp := lp15) (by kernel_rfl) fun st r h => by
  rw [show firstRegion lp15 = 5 from by kernel_rfl] at h
  exact tlo_ok h
theorem cV15 : COk PP 15 R215 := tok_fn (H := HSe 15) TT_ok TOk.nil Go.Proofs.Tryz.func15 (by kernel_rfl) loV15_ok
theorem t205_ok : TOk PP t205 := TOk.cons (COk.spec (out := fun _ G => oT G) (E_ok 6).pure) (TOk.cons (COk.spec (out := fun _ G => oS G) cKeep) (TOk.cons (COk.spec (out := fun _ G => oKp G) cV13.pure) (TOk.cons (COk.spec (out := fun _ G => oKp G) cV14.pure) (TOk.cons (COk.spec (out := fun _ G => oS G) cV15.pure) TOk.nil))))
theorem cV5 : COk PP 5 R205 := tok_fn (H := fun _ => []) TT_ok t205_ok Go.Proofs.Tryz.func5 (by kernel_rfl) fun _ _ => LoOk2.no _

theorem s12 {k : LK} {z : Nat} {l : List Bool} (h : l.length ≤ 1000000) (G : List Ent) : S12 [.dat (.list k z (encB l))] G = some (oS G (ba (keepW l))) := by
  simp only [S12, sKeep]
  rw [boolsOf_enc]
  simp only
  rw [if_pos h]
  rfl
theorem keep_kept {s : List UInt8} {l : List Bool} (h : kept s = some l) : keepW l = s := by
  unfold kept at h
  split at h
  · rename_i h1
    injection h with h
    subst h
    rw [h1]
    rfl
  · split at h
    · cases h
    · rename_i h2
      split at h
      · rename_i h3
        injection h with h
        subst h
        unfold keepW
        rw [if_neg (by simpa using h2)]
        unfold keepB
        rw [List.map_map]
        conv => rhs; rw [← List.map_id s]
        refine List.map_congr_left fun b hb => ?_
        have := List.all_eq_true.1 h3 b hb
        unfold isKb at this
        simp only [Bool.or_eq_true, beq_iff_eq] at this
        rcases this with rfl | rfl <;> rfl
      · cases h
theorem keepW_len (l : List Bool) : (keepW l).length ≤ l.length + 1 := by
  unfold keepW
  split
  · simp
  · simp [keepB]
theorem kept_len {s : List UInt8} {l : List Bool} (h : kept s = some l) : l.length ≤ s.length := by
  unfold kept at h
  split at h
  · injection h with h
    subst h
    exact Nat.zero_le _
  · split at h
    · cases h
    · split at h
      · injection h with h
        subst h
        simp
      · cases h
attribute [local irreducible] fnS loS tround P105 S12 P213 P214 P215
/-- the lists that Kept gives -/
theorem p215k {l : List Bool} (h : l.length ≤ 100000) (G : List Ent) : P215 [.dat (.list (kvL l).1 (kvL l).2.1 (kvL l).2.2)] G = some (oS G (ba (keepW l))) := by
  cases l with
  | nil => exact p215 (k := .nil) (z := 0) (l := []) (fun h => absurd rfl h) h G
  | cons b l => exact p215 (k := .any) (z := 1) (l := b :: l) (fun _ => rfl) h G
theorem s12k {l : List Bool} (h : l.length ≤ 100000) (G : List Ent) : S12 [.dat (.list (kvL l).1 (kvL l).2.1 (kvL l).2.2)] G = some (oS G (ba (keepW l))) := by
  cases l with
  | nil => exact s12 (k := .nil) (z := 0) (l := []) (by simp) G
  | cons b l => exact s12 (k := .any) (z := 1) (l := b :: l) (by omega) G
theorem ktOf_some (l : List Bool) : ktOf (some l) = (kvL l, 0) := by cases l <;> rfl
theorem f5_runK {k : LK} {z : Nat} {l : List Bool} (a : ByteArray) (hz : l ≠ [] → z = 1) : R205 [.dat (.list k z (encB l)), .dat (.str a)] [] = some (.dat (.bool true), []) := by
  obtain ⟨s, rfl⟩ : ∃ t, a = ba t := ⟨_, ba_of a⟩
  have key : ∀ o, (f5kt k z (encB l) (ba s)).ev = o → R205 [.dat (.list k z (encB l)), .dat (.str (ba s))] [] = o := fun o h => by
    rw [Tr.ev_run] at h
    exact h
  refine key _ ?_
  rw [f5kt_eq, encB_len, ba_sz]
  have e6 := fnS_eq (out := oT []) oT_inj (p105 (G := []))
  by_cases h1 : l.length > 400
  · exact aT (by rw [decide_eq_true_eq]; omega) (gStep e6 rfl)
  refine aF (by rw [decide_eq_false_iff_not]; omega) ?_
  by_cases h2 : s.length > 400
  · exact aT (by rw [decide_eq_true_eq]; omega) (gStep e6 rfl)
  refine aF (by rw [decide_eq_false_iff_not]; omega) ?_
  have e12 := fnS_eq (out := oS []) oS_inj (s12 (k := k) (z := z) (l := l) (by omega) [])
  have e13 := fnS_eq (out := oKp []) oKp_inj (p213 (s := s) (by omega) [])
  have e14 := fnS_eq (out := oKp []) oKp_inj (p214 (s := s) (by omega) [])
  have hk := keepW_len l
  have e13' := fnS_eq (out := oKp []) oKp_inj (p213 (s := keepW l) (by omega) [])
  rw [kept_keep, ktOf_some] at e13'
  have e15 := fnS_eq (out := oS []) oS_inj (p215 (k := k) (z := z) (l := l) hz (by omega) [])
  have e15k := fnS_eq (out := oS []) oS_inj (p215k (l := l) (by omega) [])
  have sw : ∀ t : List UInt8, ((ba t).toList == (ba t).toList) = true := fun t => by rw [sameB]; simp
  refine gStep e12 (gStep e13 (gStep e14 (gStep e13' (gStep e15 (aT (sw _) ?_)))))
  cases hs : kept s with
  | none =>
    have e0 := fnS_eq (out := oS []) oS_inj (p215k (l := []) (by simp) [])
    exact gStep e0 (gStep e0 (aT (sw _) (aT rfl (aT rfl (gStep e15k (gStep e15 (aT (sw _) (aT rfl (gStep e6 rfl)))))))))
  | some m =>
    have hm := kept_len hs
    have em := fnS_eq (out := oS []) oS_inj (p215k (l := m) (by omega) [])
    have em12 := fnS_eq (out := oS []) oS_inj (s12k (l := m) (by omega) [])
    rw [ktOf_some]
    exact gStep em (gStep em (aT (sw _) (aT rfl (aT rfl (gStep e15k (gStep e15 (aT (sw _) (aF rfl (gStep em12 (aT (by rw [keep_kept hs]; exact sw s) (gStep e6 rfl)))))))))))
end Go.Eng
end

/- Steps as lines: Line, guess, Parse of both sides, the laws: as trees. -/
section
namespace Go.Eng
open Go
set_option maxRecDepth 100000

abbrev TSt := Int × Int × Int × Int × ByteArray × Int × TK3
def stT (p : TSt) : List AV := stC p.1 p.2.1 p.2.2.1 p.2.2.2.1 p.2.2.2.2.1 p.2.2.2.2.2.1 p.2.2.2.2.2.2.1 p.2.2.2.2.2.2.2.1 p.2.2.2.2.2.2.2.2
def oSt (G : List Ent) (p : TSt) : AV × List Ent := (.agg (stT p), G)
def oTd (G : List Ent) (p : TK3 × TSt) : AV × List Ent := (.tup [.dat (.list p.1.1 p.1.2.1 p.1.2.2), .agg (stT p.2)], G)
def oPs (G : List Ent) (p : TSt × Int) : AV × List Ent := (.tup [.agg (stT p.1), jn p.2], G)
noncomputable def S21 : Spec := sItoaA
/-! ### the program's Line -/
noncomputable def t217 : TOrc := tCons 21 (fun a G => tspec (oS G) (S21 a G)) (tCons 33 (fun a G => tspec (oS G) (P7 a G)) (tCons 12 (fun a G => tspec (oS G) (S12 a G)) tNone))
noncomputable def g17t (k nd a n : Int) (d : ByteArray) (s : Int) (lk : LK) (z : Nat) (l : Row) : Tr (AV × List Ent) := tfn TT t217 noLo Go.Proofs.Tryz.f17 [.agg (stC k nd a n d s lk z l)] []
noncomputable def R217 (a : List AV) (G : List Ent) : Option (AV × List Ent) := (tfn TT t217 noLo Go.Proofs.Tryz.f17 a G).run
noncomputable def P217 := pureS R217
noncomputable def P219 := pureS fun a G => (t8 19 a G).run
noncomputable def P223 := pureS fun a G => (t8 23 a G).run
noncomputable def g19r (s : ByteArray) : Tr (AV × List Ent) := t8 19 [.dat (.str s)] []
noncomputable def g23r (s : ByteArray) : Tr (AV × List Ent) := t8 23 [.dat (.str s)] []
noncomputable def t207 : TOrc := tCons 17 (fun a G => tspec (oTd G) (P217 a G)) (tCons 18 (fun a G => tspec (oB G) (P218 a G)) (tCons 19 (fun a G => tspec (oB G) (P219 a G)) (tCons 20 (fun a G => tspec (oRw G) (P220 a G)) (tCons 21 (fun a G => tspec (oS G) (S21 a G)) (tCons 12 (fun a G => tspec (oS G) (S12 a G)) (tCons 22 (fun a G => tspec (oS G) (S16n a G)) tNone))))))
noncomputable def g7t (k nd a n : Int) (d : ByteArray) (s : Int) (lk : LK) (z : Nat) (l : Row) : Tr (AV × List Ent) := tfn TT t207 noLo Go.Proofs.Tryz.f7 [.agg (stC k nd a n d s lk z l)] []
noncomputable def R207 (a : List AV) (G : List Ent) : Option (AV × List Ent) := (tfn TT t207 noLo Go.Proofs.Tryz.f7 a G).run
noncomputable def P207 := pureS R207
/-! ### the document's Line -/
noncomputable def g24t (k nd a n : Int) (d : ByteArray) (s : Int) (lk : LK) (z : Nat) (l : Row) : Tr (AV × List Ent) := tfn TT tNone noLo Go.Proofs.Tryz.f24 [.agg (stC k nd a n d s lk z l)] []
noncomputable def R224 (a : List AV) (G : List Ent) : Option (AV × List Ent) := (tfn TT tNone noLo Go.Proofs.Tryz.f24 a G).run
noncomputable def P224 := pureS R224
noncomputable def t208 : TOrc := tCons 23 (fun a G => tspec (oB G) (P223 a G)) (tCons 24 (fun a G => tspec (oSt G) (P224 a G)) (tCons 10 (fun a G => tspec (oB G) (P210 a G)) (tCons 25 (fun a G => tspec (oRw G) (P225 a G)) (tCons 26 (fun a G => tspec (oS G) (P118 a G)) (tCons 27 (fun a G => tspec (oS G) (P10 a G)) (tCons 15 (fun a G => tspec (oS G) (P215 a G)) tNone))))))
noncomputable def g8t (k nd a n : Int) (d : ByteArray) (s : Int) (lk : LK) (z : Nat) (l : Row) : Tr (AV × List Ent) := tfn TT t208 noLo Go.Proofs.Tryz.f8 [.agg (stC k nd a n d s lk z l)] []
noncomputable def R208 (a : List AV) (G : List Ent) : Option (AV × List Ent) := (tfn TT t208 noLo Go.Proofs.Tryz.f8 a G).run
noncomputable def P208 := pureS R208
/-! ### guesses -/
noncomputable def P138 := pureS R8
noncomputable def P126 := pureS R9
noncomputable def t228 : TOrc := tCons 41 (fun a G => tspec (oTw G) (R241 a G)) (tCons 42 (fun a G => tspec (oTn G) (R242 a G)) (tCons 43 (fun a G => tspec (oTk G) (R243 a G)) (tCons 20 (fun a G => tspec (oRw G) (P220 a G)) (tCons 44 (fun a G => tspec (oI G) (P244 a G)) (tCons 45 (fun a G => tspec (oLg G) (P138 a G)) tNone)))))
noncomputable def g28t (s : ByteArray) : Tr (AV × List Ent) := tfn TT t228 noLo Go.Proofs.Tryz.f28 [.dat (.str s)] []
noncomputable def R228 (a : List AV) (G : List Ent) : Option (AV × List Ent) := (tfn TT t228 noLo Go.Proofs.Tryz.f28 a G).run
noncomputable def P228 := pureS R228
noncomputable def t229 : TOrc := tCons 46 (fun a G => tspec (oWw G) (P123 a G)) (tCons 47 (fun a G => tspec (oI G) (P124 a G)) (tCons 14 (fun a G => tspec (oKp G) (P214 a G)) (tCons 48 (fun a G => tspec (oI G) (P248 a G)) (tCons 49 (fun a G => tspec (oLg G) (P126 a G)) tNone))))
noncomputable def g29t (s : ByteArray) : Tr (AV × List Ent) := tfn TT t229 noLo Go.Proofs.Tryz.f29 [.dat (.str s)] []
noncomputable def R229 (a : List AV) (G : List Ent) : Option (AV × List Ent) := (tfn TT t229 noLo Go.Proofs.Tryz.f29 a G).run
noncomputable def P229 := pureS R229
/-! ### Parse, the laws -/
noncomputable def t209 : TOrc := tCons 28 (fun a G => tspec (oSt G) (P228 a G)) (tCons 7 (fun a G => tspec (oLg G) (P207 a G)) tNone)
noncomputable def g9t (s : ByteArray) : Tr (AV × List Ent) := tfn TT t209 noLo Go.Proofs.Tryz.f9 [.dat (.str s)] []
noncomputable def R209 (a : List AV) (G : List Ent) : Option (AV × List Ent) := (tfn TT t209 noLo Go.Proofs.Tryz.f9 a G).run
noncomputable def P209 := pureS R209
noncomputable def t211 : TOrc := tCons 29 (fun a G => tspec (oSt G) (P229 a G)) (tCons 8 (fun a G => tspec (oLg G) (P208 a G)) tNone)
noncomputable def g11t (s : ByteArray) : Tr (AV × List Ent) := tfn TT t211 noLo Go.Proofs.Tryz.f11 [.dat (.str s)] []
noncomputable def R211 (a : List AV) (G : List Ent) : Option (AV × List Ent) := (tfn TT t211 noLo Go.Proofs.Tryz.f11 a G).run
noncomputable def P211 := pureS R211
noncomputable def t203 : TOrc := tCons 6 (fun a G => tspec (oT G) (P105 a G)) (tCons 7 (fun a G => tspec (oLg G) (P207 a G)) (tCons 8 (fun a G => tspec (oLg G) (P208 a G)) (tCons 9 (fun a G => tspec (oPs G) (P209 a G)) (tCons 10 (fun a G => tspec (oB G) (P210 a G)) tNone))))
noncomputable def g3t (k nd a n : Int) (d : ByteArray) (s : Int) (lk : LK) (z : Nat) (l : Row) : Tr (AV × List Ent) := tfn TT t203 noLo Go.Proofs.Tryz.f3 [.agg (stC k nd a n d s lk z l)] []
noncomputable def R203 (a : List AV) (G : List Ent) : Option (AV × List Ent) := (tfn TT t203 noLo Go.Proofs.Tryz.f3 a G).run
noncomputable def t204 : TOrc := tCons 6 (fun a G => tspec (oT G) (P105 a G)) (tCons 7 (fun a G => tspec (oLg G) (P207 a G)) (tCons 9 (fun a G => tspec (oPs G) (P209 a G)) (tCons 11 (fun a G => tspec (oPs G) (P211 a G)) (tCons 10 (fun a G => tspec (oB G) (P210 a G)) tNone))))
noncomputable def g4t (s : ByteArray) : Tr (AV × List Ent) := tfn TT t204 noLo Go.Proofs.Tryz.f4 [.dat (.str s)] []
noncomputable def R204 (a : List AV) (G : List Ent) : Option (AV × List Ent) := (tfn TT t204 noLo Go.Proofs.Tryz.f4 a G).run
end Go.Eng
end

/- Steps as lines: both Line, kind by kind, as trees (printed by gensv.py). -/
section
namespace Go.Eng
open Go
set_option maxRecDepth 100000

abbrev dS (s : ByteArray) : AV := .dat (.str s)
abbrev stA (k nd a n : Int) (d : ByteArray) (s : Int) (lk : LK) (z : Nat) (l : Row) : AV := .agg (stC k nd a n d s lk z l)
def eW (n : Int) : Option (AV × List Ent) := some (.tup [dS (ba []), jn n], [])
def vW (s : ByteArray) : Option (AV × List Ent) := some (.tup [dS s, jn 0], [])
def fitS (n : Nat) : Bool := fits (TI.mk TK.str 1 16 [dS (ba [])] true) n
def bleW (n : Nat) : Bool := Nat.ble n 9223372036854775807
noncomputable def q17_1 (nd a n : Int) (d : ByteArray) (s : Int) (lk : LK) (z : Nat) (l : Row) : Tr (AV × List Ent) := g17t 1 nd a n d s lk z l
noncomputable def q17_2 (nd a n : Int) (d : ByteArray) (s : Int) (lk : LK) (z : Nat) (l : Row) : Tr (AV × List Ent) := g17t 2 nd a n d s lk z l
noncomputable def q17_3 (nd a n : Int) (d : ByteArray) (s : Int) (lk : LK) (z : Nat) (l : Row) : Tr (AV × List Ent) := g17t 3 nd a n d s lk z l
noncomputable def q17_4 (nd a n : Int) (d : ByteArray) (s : Int) (lk : LK) (z : Nat) (l : Row) : Tr (AV × List Ent) := g17t 4 nd a n d s lk z l
noncomputable def q17_5 (nd a n : Int) (d : ByteArray) (s : Int) (lk : LK) (z : Nat) (l : Row) : Tr (AV × List Ent) := g17t 5 nd a n d s lk z l
noncomputable def q17_6 (nd a n : Int) (d : ByteArray) (s : Int) (lk : LK) (z : Nat) (l : Row) : Tr (AV × List Ent) := g17t 6 nd a n d s lk z l
noncomputable def q17_7 (nd a n : Int) (d : ByteArray) (s : Int) (lk : LK) (z : Nat) (l : Row) : Tr (AV × List Ent) := g17t 7 nd a n d s lk z l
noncomputable def q17_8 (nd a n : Int) (d : ByteArray) (s : Int) (lk : LK) (z : Nat) (l : Row) : Tr (AV × List Ent) := g17t 8 nd a n d s lk z l
noncomputable def q17_9 (nd a n : Int) (d : ByteArray) (s : Int) (lk : LK) (z : Nat) (l : Row) : Tr (AV × List Ent) := g17t 9 nd a n d s lk z l
noncomputable def q17_10 (nd a n : Int) (d : ByteArray) (s : Int) (lk : LK) (z : Nat) (l : Row) : Tr (AV × List Ent) := g17t 10 nd a n d s lk z l
noncomputable def q17_11 (nd a n : Int) (d : ByteArray) (s : Int) (lk : LK) (z : Nat) (l : Row) : Tr (AV × List Ent) := g17t 11 nd a n d s lk z l
noncomputable def q17_12 (nd a n : Int) (d : ByteArray) (s : Int) (lk : LK) (z : Nat) (l : Row) : Tr (AV × List Ent) := g17t 12 nd a n d s lk z l
noncomputable def q17_13 (nd a n : Int) (d : ByteArray) (s : Int) (lk : LK) (z : Nat) (l : Row) : Tr (AV × List Ent) := g17t 13 nd a n d s lk z l
noncomputable def q17_14 (nd a n : Int) (d : ByteArray) (s : Int) (lk : LK) (z : Nat) (l : Row) : Tr (AV × List Ent) := g17t 14 nd a n d s lk z l
noncomputable def q17_15 (nd a n : Int) (d : ByteArray) (s : Int) (lk : LK) (z : Nat) (l : Row) : Tr (AV × List Ent) := g17t 15 nd a n d s lk z l
noncomputable def q24_1 (nd a n : Int) (d : ByteArray) (s : Int) (lk : LK) (z : Nat) (l : Row) : Tr (AV × List Ent) := g24t 1 nd a n d s lk z l
noncomputable def q24_2 (nd a n : Int) (d : ByteArray) (s : Int) (lk : LK) (z : Nat) (l : Row) : Tr (AV × List Ent) := g24t 2 nd a n d s lk z l
noncomputable def q24_3 (nd a n : Int) (d : ByteArray) (s : Int) (lk : LK) (z : Nat) (l : Row) : Tr (AV × List Ent) := g24t 3 nd a n d s lk z l
noncomputable def q24_4 (nd a n : Int) (d : ByteArray) (s : Int) (lk : LK) (z : Nat) (l : Row) : Tr (AV × List Ent) := g24t 4 nd a n d s lk z l
noncomputable def q24_5 (nd a n : Int) (d : ByteArray) (s : Int) (lk : LK) (z : Nat) (l : Row) : Tr (AV × List Ent) := g24t 5 nd a n d s lk z l
noncomputable def q24_6 (nd a n : Int) (d : ByteArray) (s : Int) (lk : LK) (z : Nat) (l : Row) : Tr (AV × List Ent) := g24t 6 nd a n d s lk z l
noncomputable def q24_7 (nd a n : Int) (d : ByteArray) (s : Int) (lk : LK) (z : Nat) (l : Row) : Tr (AV × List Ent) := g24t 7 nd a n d s lk z l
noncomputable def q24_8 (nd a n : Int) (d : ByteArray) (s : Int) (lk : LK) (z : Nat) (l : Row) : Tr (AV × List Ent) := g24t 8 nd a n d s lk z l
noncomputable def q24_9 (nd a n : Int) (d : ByteArray) (s : Int) (lk : LK) (z : Nat) (l : Row) : Tr (AV × List Ent) := g24t 9 nd a n d s lk z l
noncomputable def q24_10 (nd a n : Int) (d : ByteArray) (s : Int) (lk : LK) (z : Nat) (l : Row) : Tr (AV × List Ent) := g24t 10 nd a n d s lk z l
noncomputable def q24_11 (nd a n : Int) (d : ByteArray) (s : Int) (lk : LK) (z : Nat) (l : Row) : Tr (AV × List Ent) := g24t 11 nd a n d s lk z l
noncomputable def q24_12 (nd a n : Int) (d : ByteArray) (s : Int) (lk : LK) (z : Nat) (l : Row) : Tr (AV × List Ent) := g24t 12 nd a n d s lk z l
noncomputable def q24_13 (nd a n : Int) (d : ByteArray) (s : Int) (lk : LK) (z : Nat) (l : Row) : Tr (AV × List Ent) := g24t 13 nd a n d s lk z l
noncomputable def q24_14 (nd a n : Int) (d : ByteArray) (s : Int) (lk : LK) (z : Nat) (l : Row) : Tr (AV × List Ent) := g24t 14 nd a n d s lk z l
noncomputable def q24_15 (nd a n : Int) (d : ByteArray) (s : Int) (lk : LK) (z : Nat) (l : Row) : Tr (AV × List Ent) := g24t 15 nd a n d s lk z l
noncomputable def q8_1 (nd a n : Int) (d : ByteArray) (s : Int) (lk : LK) (z : Nat) (l : Row) : Tr (AV × List Ent) := g8t 1 nd a n d s lk z l
noncomputable def q8_2 (nd a n : Int) (d : ByteArray) (s : Int) (lk : LK) (z : Nat) (l : Row) : Tr (AV × List Ent) := g8t 2 nd a n d s lk z l
noncomputable def q8_3 (nd a n : Int) (d : ByteArray) (s : Int) (lk : LK) (z : Nat) (l : Row) : Tr (AV × List Ent) := g8t 3 nd a n d s lk z l
noncomputable def q8_4 (nd a n : Int) (d : ByteArray) (s : Int) (lk : LK) (z : Nat) (l : Row) : Tr (AV × List Ent) := g8t 4 nd a n d s lk z l
noncomputable def q8_5 (nd a n : Int) (d : ByteArray) (s : Int) (lk : LK) (z : Nat) (l : Row) : Tr (AV × List Ent) := g8t 5 nd a n d s lk z l
noncomputable def q8_6 (nd a n : Int) (d : ByteArray) (s : Int) (lk : LK) (z : Nat) (l : Row) : Tr (AV × List Ent) := g8t 6 nd a n d s lk z l
noncomputable def q8_7 (nd a n : Int) (d : ByteArray) (s : Int) (lk : LK) (z : Nat) (l : Row) : Tr (AV × List Ent) := g8t 7 nd a n d s lk z l
noncomputable def q8_8 (nd a n : Int) (d : ByteArray) (s : Int) (lk : LK) (z : Nat) (l : Row) : Tr (AV × List Ent) := g8t 8 nd a n d s lk z l
noncomputable def q8_9 (nd a n : Int) (d : ByteArray) (s : Int) (lk : LK) (z : Nat) (l : Row) : Tr (AV × List Ent) := g8t 9 nd a n d s lk z l
noncomputable def q8_10 (nd a n : Int) (d : ByteArray) (s : Int) (lk : LK) (z : Nat) (l : Row) : Tr (AV × List Ent) := g8t 10 nd a n d s lk z l
noncomputable def q8_11 (nd a n : Int) (d : ByteArray) (s : Int) (lk : LK) (z : Nat) (l : Row) : Tr (AV × List Ent) := g8t 11 nd a n d s lk z l
noncomputable def q8_12 (nd a n : Int) (d : ByteArray) (s : Int) (lk : LK) (z : Nat) (l : Row) : Tr (AV × List Ent) := g8t 12 nd a n d s lk z l
noncomputable def q8_13 (nd a n : Int) (d : ByteArray) (s : Int) (lk : LK) (z : Nat) (l : Row) : Tr (AV × List Ent) := g8t 13 nd a n d s lk z l
noncomputable def q8_14 (nd a n : Int) (d : ByteArray) (s : Int) (lk : LK) (z : Nat) (l : Row) : Tr (AV × List Ent) := g8t 14 nd a n d s lk z l
noncomputable def q8_15 (nd a n : Int) (d : ByteArray) (s : Int) (lk : LK) (z : Nat) (l : Row) : Tr (AV × List Ent) := g8t 15 nd a n d s lk z l
end Go.Eng
end

/- Steps as lines: what is told of a step, kind by kind (printed by gensv.py). -/
section
namespace Go.Eng
open Go
set_option maxRecDepth 100000
set_option linter.unusedSimpArgs false
set_option linter.unusedVariables false

theorem q17_1_eq (nd a n : Int) (d : ByteArray) (s : Int) (lk : LK) (z : Nat) (l : Row) : (q17_1 nd a n d s lk z l).ev =
 --folded
 (rGet (fnS (oS []) (S21 [(jn a)] [])) fun x1 =>
 (rAsk (decide (s > (0 : Int))) (some ((AV.tup [(AV.dat (D.list LK.full 1 [[(D.str x1)]])), (stA (1 : Int) (0 : Int) a (0 : Int) (ba []) s lk z l)]), [])) (some ((AV.tup [(AV.dat (D.list LK.full 1 [[(D.str x1)]])), (stA (1 : Int) (0 : Int) a (0 : Int) (ba []) s LK.nil 0 ([] : Row))]), []))))
  := by kernel_rfl
theorem q17_2_eq (nd a n : Int) (d : ByteArray) (s : Int) (lk : LK) (z : Nat) (l : Row) : (q17_2 nd a n d s lk z l).ev =
 --folded
 (rGet (fnS (oS []) (P7 [(dS d)] [])) fun x1 =>
 (rGet (fnS (oS []) (S21 [(jn a)] [])) fun x2 =>
 (rAsk (decide (s > (0 : Int))) (some ((AV.tup [(AV.dat (D.list LK.any 1 [[(D.str x2)], [(D.str x1)]])), (stA (2 : Int) (0 : Int) a (0 : Int) d s lk z l)]), [])) (some ((AV.tup [(AV.dat (D.list LK.any 1 [[(D.str x2)], [(D.str x1)]])), (stA (2 : Int) (0 : Int) a (0 : Int) d s LK.nil 0 ([] : Row))]), [])))))
  := by kernel_rfl
theorem q17_3_eq (nd a n : Int) (d : ByteArray) (s : Int) (lk : LK) (z : Nat) (l : Row) : (q17_3 nd a n d s lk z l).ev =
 --folded
 (rAsk (decide (s > (0 : Int))) (some ((AV.tup [(AV.dat (D.list LK.nil 0 ([] : Row))), (stA (3 : Int) (0 : Int) (0 : Int) (0 : Int) (ba []) s lk z l)]), [])) (some ((AV.tup [(AV.dat (D.list LK.nil 0 ([] : Row))), (stA (3 : Int) (0 : Int) (0 : Int) (0 : Int) (ba []) s LK.nil 0 ([] : Row))]), [])))
  := by kernel_rfl
theorem q17_4_eq (nd a n : Int) (d : ByteArray) (s : Int) (lk : LK) (z : Nat) (l : Row) : (q17_4 nd a n d s lk z l).ev =
 --folded
 (rAsk (decide (s > (0 : Int))) (some ((AV.tup [(AV.dat (D.list LK.nil 0 ([] : Row))), (stA (4 : Int) (0 : Int) (0 : Int) (0 : Int) (ba []) s lk z l)]), [])) (some ((AV.tup [(AV.dat (D.list LK.nil 0 ([] : Row))), (stA (4 : Int) (0 : Int) (0 : Int) (0 : Int) (ba []) s LK.nil 0 ([] : Row))]), [])))
  := by kernel_rfl
theorem q17_5_eq (nd a n : Int) (d : ByteArray) (s : Int) (lk : LK) (z : Nat) (l : Row) : (q17_5 nd a n d s lk z l).ev =
 --folded
 (rAsk (decide (s > (0 : Int))) (some ((AV.tup [(AV.dat (D.list LK.nil 0 ([] : Row))), (stA (5 : Int) (0 : Int) (0 : Int) (0 : Int) (ba []) s lk z l)]), [])) (some ((AV.tup [(AV.dat (D.list LK.nil 0 ([] : Row))), (stA (5 : Int) (0 : Int) (0 : Int) (0 : Int) (ba []) s LK.nil 0 ([] : Row))]), [])))
  := by kernel_rfl
theorem q17_6_eq (nd a n : Int) (d : ByteArray) (s : Int) (lk : LK) (z : Nat) (l : Row) : (q17_6 nd a n d s lk z l).ev =
 --folded
 (rGet (fnS (oS []) (S21 [(jn nd)] [])) fun x1 =>
 (rAsk (decide (s > (0 : Int))) (some ((AV.tup [(AV.dat (D.list LK.full 1 [[(D.str x1)]])), (stA (6 : Int) nd (0 : Int) (0 : Int) (ba []) s lk z l)]), [])) (some ((AV.tup [(AV.dat (D.list LK.full 1 [[(D.str x1)]])), (stA (6 : Int) nd (0 : Int) (0 : Int) (ba []) s LK.nil 0 ([] : Row))]), []))))
  := by kernel_rfl
theorem q17_7_eq (nd a n : Int) (d : ByteArray) (s : Int) (lk : LK) (z : Nat) (l : Row) : (q17_7 nd a n d s lk z l).ev =
 --folded
 (rGet (fnS (oS []) (S21 [(jn n)] [])) fun x1 =>
 (rAsk (decide (s > (0 : Int))) (some ((AV.tup [(AV.dat (D.list LK.full 1 [[(D.str x1)]])), (stA (7 : Int) (0 : Int) (0 : Int) n (ba []) s lk z l)]), [])) (some ((AV.tup [(AV.dat (D.list LK.full 1 [[(D.str x1)]])), (stA (7 : Int) (0 : Int) (0 : Int) n (ba []) s LK.nil 0 ([] : Row))]), []))))
  := by kernel_rfl
theorem q17_8_eq (nd a n : Int) (d : ByteArray) (s : Int) (lk : LK) (z : Nat) (l : Row) : (q17_8 nd a n d s lk z l).ev =
 --folded
 (rGet (fnS (oS []) (S21 [(jn n)] [])) fun x1 =>
 (rAsk (decide (s > (0 : Int))) (some ((AV.tup [(AV.dat (D.list LK.full 1 [[(D.str x1)]])), (stA (8 : Int) (0 : Int) (0 : Int) n (ba []) s lk z l)]), [])) (some ((AV.tup [(AV.dat (D.list LK.full 1 [[(D.str x1)]])), (stA (8 : Int) (0 : Int) (0 : Int) n (ba []) s LK.nil 0 ([] : Row))]), []))))
  := by kernel_rfl
theorem q17_9_eq (nd a n : Int) (d : ByteArray) (s : Int) (lk : LK) (z : Nat) (l : Row) : (q17_9 nd a n d s lk z l).ev =
 --folded
 (rGet (fnS (oS []) (S21 [(jn n)] [])) fun x1 =>
 (rAsk (decide (s > (0 : Int))) (some ((AV.tup [(AV.dat (D.list LK.full 1 [[(D.str x1)]])), (stA (9 : Int) (0 : Int) (0 : Int) n (ba []) s lk z l)]), [])) (some ((AV.tup [(AV.dat (D.list LK.full 1 [[(D.str x1)]])), (stA (9 : Int) (0 : Int) (0 : Int) n (ba []) s LK.nil 0 ([] : Row))]), []))))
  := by kernel_rfl
theorem q17_10_eq (nd a n : Int) (d : ByteArray) (s : Int) (lk : LK) (z : Nat) (l : Row) : (q17_10 nd a n d s lk z l).ev =
 --folded
 (rGet (fnS (oS []) (S21 [(jn a)] [])) fun x1 =>
 (rGet (fnS (oS []) (S21 [(jn n)] [])) fun x2 =>
 (rAsk (decide (s > (0 : Int))) (some ((AV.tup [(AV.dat (D.list LK.any 1 [[(D.str x2)], [(D.str x1)]])), (stA (10 : Int) (0 : Int) a n (ba []) s lk z l)]), [])) (some ((AV.tup [(AV.dat (D.list LK.any 1 [[(D.str x2)], [(D.str x1)]])), (stA (10 : Int) (0 : Int) a n (ba []) s LK.nil 0 ([] : Row))]), [])))))
  := by kernel_rfl
theorem q17_11_eq (nd a n : Int) (d : ByteArray) (s : Int) (lk : LK) (z : Nat) (l : Row) : (q17_11 nd a n d s lk z l).ev =
 --folded
 (rAsk (decide (s > (0 : Int))) (some ((AV.tup [(AV.dat (D.list LK.nil 0 ([] : Row))), (stA (11 : Int) (0 : Int) (0 : Int) (0 : Int) (ba []) s lk z l)]), [])) (some ((AV.tup [(AV.dat (D.list LK.nil 0 ([] : Row))), (stA (11 : Int) (0 : Int) (0 : Int) (0 : Int) (ba []) s LK.nil 0 ([] : Row))]), [])))
  := by kernel_rfl
theorem q17_12_eq (nd a n : Int) (d : ByteArray) (s : Int) (lk : LK) (z : Nat) (l : Row) : (q17_12 nd a n d s lk z l).ev =
 --folded
 (rGet (fnS (oS []) (S12 [(AV.dat (D.list lk z l))] [])) fun x1 =>
 (rGet (fnS (oS []) (S21 [(jn nd)] [])) fun x2 =>
 (rAsk (decide (s > (0 : Int))) (some ((AV.tup [(AV.dat (D.list LK.any 1 [[(D.str x2)], [(D.str x1)]])), (stA (12 : Int) nd (0 : Int) (0 : Int) (ba []) s lk z l)]), [])) (some ((AV.tup [(AV.dat (D.list LK.any 1 [[(D.str x2)], [(D.str x1)]])), (stA (12 : Int) nd (0 : Int) (0 : Int) (ba []) s lk z l)]), [])))))
  := by kernel_rfl
theorem q17_13_eq (nd a n : Int) (d : ByteArray) (s : Int) (lk : LK) (z : Nat) (l : Row) : (q17_13 nd a n d s lk z l).ev =
 --folded
 (rGet (fnS (oS []) (S21 [(jn nd)] [])) fun x1 =>
 (rAsk (decide (s > (0 : Int))) (some ((AV.tup [(AV.dat (D.list LK.full 1 [[(D.str x1)]])), (stA (13 : Int) nd (0 : Int) (0 : Int) (ba []) s lk z l)]), [])) (some ((AV.tup [(AV.dat (D.list LK.full 1 [[(D.str x1)]])), (stA (13 : Int) nd (0 : Int) (0 : Int) (ba []) s LK.nil 0 ([] : Row))]), []))))
  := by kernel_rfl
theorem q17_14_eq (nd a n : Int) (d : ByteArray) (s : Int) (lk : LK) (z : Nat) (l : Row) : (q17_14 nd a n d s lk z l).ev =
 --folded
 (rGet (fnS (oS []) (S21 [(jn a)] [])) fun x1 =>
 (rAsk (decide (s > (0 : Int))) (some ((AV.tup [(AV.dat (D.list LK.full 1 [[(D.str x1)]])), (stA (14 : Int) (0 : Int) a (0 : Int) (ba []) s lk z l)]), [])) (some ((AV.tup [(AV.dat (D.list LK.full 1 [[(D.str x1)]])), (stA (14 : Int) (0 : Int) a (0 : Int) (ba []) s LK.nil 0 ([] : Row))]), []))))
  := by kernel_rfl
theorem q17_15_eq (nd a n : Int) (d : ByteArray) (s : Int) (lk : LK) (z : Nat) (l : Row) : (q17_15 nd a n d s lk z l).ev =
 --folded
 (rGet (fnS (oS []) (S21 [(jn nd)] [])) fun x1 =>
 (rAsk (decide (s > (0 : Int))) (some ((AV.tup [(AV.dat (D.list LK.full 1 [[(D.str x1)]])), (stA (15 : Int) nd (0 : Int) (0 : Int) (ba []) s lk z l)]), [])) (some ((AV.tup [(AV.dat (D.list LK.full 1 [[(D.str x1)]])), (stA (15 : Int) nd (0 : Int) (0 : Int) (ba []) s LK.nil 0 ([] : Row))]), []))))
  := by kernel_rfl
theorem q24_1_eq (nd a n : Int) (d : ByteArray) (s : Int) (lk : LK) (z : Nat) (l : Row) : (q24_1 nd a n d s lk z l).ev =
 --folded
 (rAsk (decide (s > (0 : Int))) (some ((stA (1 : Int) (0 : Int) a (0 : Int) (ba []) s lk z l), [])) (some ((stA (1 : Int) (0 : Int) a (0 : Int) (ba []) s LK.nil 0 ([] : Row)), [])))
  := by kernel_rfl
theorem q24_2_eq (nd a n : Int) (d : ByteArray) (s : Int) (lk : LK) (z : Nat) (l : Row) : (q24_2 nd a n d s lk z l).ev =
 --folded
 (rAsk (decide (s > (0 : Int))) (some ((stA (2 : Int) (0 : Int) a (0 : Int) d s lk z l), [])) (some ((stA (2 : Int) (0 : Int) a (0 : Int) d s LK.nil 0 ([] : Row)), [])))
  := by kernel_rfl
theorem q24_3_eq (nd a n : Int) (d : ByteArray) (s : Int) (lk : LK) (z : Nat) (l : Row) : (q24_3 nd a n d s lk z l).ev =
 --folded
 (rAsk (decide (s > (0 : Int))) (some ((stA (3 : Int) (0 : Int) (0 : Int) (0 : Int) (ba []) s lk z l), [])) (some ((stA (3 : Int) (0 : Int) (0 : Int) (0 : Int) (ba []) s LK.nil 0 ([] : Row)), [])))
  := by kernel_rfl
theorem q24_4_eq (nd a n : Int) (d : ByteArray) (s : Int) (lk : LK) (z : Nat) (l : Row) : (q24_4 nd a n d s lk z l).ev =
 --folded
 (rAsk (decide (s > (0 : Int))) (some ((stA (4 : Int) (0 : Int) (0 : Int) (0 : Int) (ba []) s lk z l), [])) (some ((stA (4 : Int) (0 : Int) (0 : Int) (0 : Int) (ba []) s LK.nil 0 ([] : Row)), [])))
  := by kernel_rfl
theorem q24_5_eq (nd a n : Int) (d : ByteArray) (s : Int) (lk : LK) (z : Nat) (l : Row) : (q24_5 nd a n d s lk z l).ev =
 --folded
 (rAsk (decide (s > (0 : Int))) (some ((stA (5 : Int) (0 : Int) (0 : Int) (0 : Int) (ba []) s lk z l), [])) (some ((stA (5 : Int) (0 : Int) (0 : Int) (0 : Int) (ba []) s LK.nil 0 ([] : Row)), [])))
  := by kernel_rfl
theorem q24_6_eq (nd a n : Int) (d : ByteArray) (s : Int) (lk : LK) (z : Nat) (l : Row) : (q24_6 nd a n d s lk z l).ev =
 --folded
 (rAsk (decide (s > (0 : Int))) (some ((stA (6 : Int) nd (0 : Int) (0 : Int) (ba []) s lk z l), [])) (some ((stA (6 : Int) nd (0 : Int) (0 : Int) (ba []) s LK.nil 0 ([] : Row)), [])))
  := by kernel_rfl
theorem q24_7_eq (nd a n : Int) (d : ByteArray) (s : Int) (lk : LK) (z : Nat) (l : Row) : (q24_7 nd a n d s lk z l).ev =
 --folded
 (rAsk (decide (s > (0 : Int))) (some ((stA (7 : Int) (0 : Int) (0 : Int) n (ba []) s lk z l), [])) (some ((stA (7 : Int) (0 : Int) (0 : Int) n (ba []) s LK.nil 0 ([] : Row)), [])))
  := by kernel_rfl
theorem q24_8_eq (nd a n : Int) (d : ByteArray) (s : Int) (lk : LK) (z : Nat) (l : Row) : (q24_8 nd a n d s lk z l).ev =
 --folded
 (rAsk (decide (s > (0 : Int))) (some ((stA (8 : Int) (0 : Int) (0 : Int) n (ba []) s lk z l), [])) (some ((stA (8 : Int) (0 : Int) (0 : Int) n (ba []) s LK.nil 0 ([] : Row)), [])))
  := by kernel_rfl
theorem q24_9_eq (nd a n : Int) (d : ByteArray) (s : Int) (lk : LK) (z : Nat) (l : Row) : (q24_9 nd a n d s lk z l).ev =
 --folded
 (rAsk (decide (s > (0 : Int))) (some ((stA (9 : Int) (0 : Int) (0 : Int) n (ba []) s lk z l), [])) (some ((stA (9 : Int) (0 : Int) (0 : Int) n (ba []) s LK.nil 0 ([] : Row)), [])))
  := by kernel_rfl
theorem q24_10_eq (nd a n : Int) (d : ByteArray) (s : Int) (lk : LK) (z : Nat) (l : Row) : (q24_10 nd a n d s lk z l).ev =
 --folded
 (rAsk (decide (s > (0 : Int))) (some ((stA (10 : Int) (0 : Int) a n (ba []) s lk z l), [])) (some ((stA (10 : Int) (0 : Int) a n (ba []) s LK.nil 0 ([] : Row)), [])))
  := by kernel_rfl
theorem q24_11_eq (nd a n : Int) (d : ByteArray) (s : Int) (lk : LK) (z : Nat) (l : Row) : (q24_11 nd a n d s lk z l).ev =
 --folded
 (rAsk (decide (s > (0 : Int))) (some ((stA (11 : Int) (0 : Int) (0 : Int) (0 : Int) (ba []) s lk z l), [])) (some ((stA (11 : Int) (0 : Int) (0 : Int) (0 : Int) (ba []) s LK.nil 0 ([] : Row)), [])))
  := by kernel_rfl
theorem q24_12_eq (nd a n : Int) (d : ByteArray) (s : Int) (lk : LK) (z : Nat) (l : Row) : (q24_12 nd a n d s lk z l).ev =
 --folded
 (rAsk (decide (s > (0 : Int))) (some ((stA (12 : Int) nd (0 : Int) (0 : Int) (ba []) s lk z l), [])) (some ((stA (12 : Int) nd (0 : Int) (0 : Int) (ba []) s lk z l), [])))
  := by kernel_rfl
theorem q24_13_eq (nd a n : Int) (d : ByteArray) (s : Int) (lk : LK) (z : Nat) (l : Row) : (q24_13 nd a n d s lk z l).ev =
 --folded
 (rAsk (decide (s > (0 : Int))) (some ((stA (13 : Int) nd (0 : Int) (0 : Int) (ba []) s lk z l), [])) (some ((stA (13 : Int) nd (0 : Int) (0 : Int) (ba []) s LK.nil 0 ([] : Row)), [])))
  := by kernel_rfl
theorem q24_14_eq (nd a n : Int) (d : ByteArray) (s : Int) (lk : LK) (z : Nat) (l : Row) : (q24_14 nd a n d s lk z l).ev =
 --folded
 (rAsk (decide (s > (0 : Int))) (some ((stA (14 : Int) (0 : Int) a (0 : Int) (ba []) s lk z l), [])) (some ((stA (14 : Int) (0 : Int) a (0 : Int) (ba []) s LK.nil 0 ([] : Row)), [])))
  := by kernel_rfl
theorem q24_15_eq (nd a n : Int) (d : ByteArray) (s : Int) (lk : LK) (z : Nat) (l : Row) : (q24_15 nd a n d s lk z l).ev =
 --folded
 (rAsk (decide (s > (0 : Int))) (some ((stA (15 : Int) nd (0 : Int) (0 : Int) (ba []) s lk z l), [])) (some ((stA (15 : Int) nd (0 : Int) (0 : Int) (ba []) s LK.nil 0 ([] : Row)), [])))
  := by kernel_rfl

/-- the words that are told -/
def tdL (x : Stw) : TK3 := match argsW x with
  | [] => (.nil, 0, [])
  | [w] => (.full, 1, sRow [w])
  | w :: v :: r => (.any, 1, sRow (w :: v :: r))
/-- the step, with just what is named -/
def nmT (x : Stw) (lk : LK) (z : Nat) : TSt := ((namedW x).kind, (namedW x).node, (namedW x).at_, (namedW x).n, ba (namedW x).data, (namedW x).stop, if 0 < x.stop ∨ x.kind = 12 then (lk, z, encB x.keep) else (.nil, 0, []))
theorem s21 {v : Int} (h : fit64 v) (G : List Ent) : S21 [.dat (.int .i64 v)] G = some (oS G (ba (Go.Lib.itoa v))) := by
  unfold S21 sItoaA
  simp only
  rw [if_pos ⟨h.1, by have := h.2; omega⟩]
  rfl
attribute [local irreducible] fnS loS S21 S12 P7
theorem kP {k : Int} {s : Int} {lk : LK} {z : Nat} {q : Row} (h : 0 < s) : (if 0 < s ∨ k = 12 then ((lk, z, q) : TK3) else (.nil, 0, [])) = (lk, z, q) := if_pos (.inl h)
theorem kN0 {k : Int} {s : Int} {lk : LK} {z : Nat} {q : Row} (h : ¬ 0 < s) (hk : k ≠ 12) : (if 0 < s ∨ k = 12 then ((lk, z, q) : TK3) else (.nil, 0, [])) = (.nil, 0, []) := if_neg (by rintro (q | q) <;> contradiction)
theorem k12 {s : Int} {lk : LK} {z : Nat} {q : Row} : (if 0 < s ∨ True then ((lk, z, q) : TK3) else (.nil, 0, [])) = (lk, z, q) := if_pos (.inr trivial)
theorem told_1 {nd a n s : Int} {d : List UInt8} {lk : LK} {z : Nat} {l : List Bool} (hn : fit64 nd) (ha : fit64 a) (hm : fit64 n) (hl : l.length ≤ 100000) : R217 [stv ⟨1, nd, a, n, d, s, l⟩ lk z] [] = some (oTd [] (tdL ⟨1, nd, a, n, d, s, l⟩, nmT ⟨1, nd, a, n, d, s, l⟩ lk z)) := by
  have key : ∀ o, (q17_1 nd a n (ba d) s lk z (encB l)).ev = o → R217 [stv ⟨1, nd, a, n, d, s, l⟩ lk z] [] = o := fun o h => by
    rw [Tr.ev_run] at h
    exact h
  refine key _ ?_
  rw [q17_1_eq]
  have ea := fnS_eq (out := oS []) oS_inj (s21 ha [])
  unfold nmT
  simp only
  by_cases hs : 0 < s
  · rw [kP hs]
    exact gStep ea (aT (decide_eq_true hs) rfl)
  · rw [kN0 hs (by decide)]
    exact gStep ea (aF (decide_eq_false hs) rfl)
theorem named_1 {nd a n s : Int} {d : List UInt8} {lk : LK} {z : Nat} {l : List Bool} (hn : fit64 nd) (ha : fit64 a) (hm : fit64 n) (hl : l.length ≤ 100000) : R224 [stv ⟨1, nd, a, n, d, s, l⟩ lk z] [] = some (oSt [] (nmT ⟨1, nd, a, n, d, s, l⟩ lk z)) := by
  have key : ∀ o, (q24_1 nd a n (ba d) s lk z (encB l)).ev = o → R224 [stv ⟨1, nd, a, n, d, s, l⟩ lk z] [] = o := fun o h => by
    rw [Tr.ev_run] at h
    exact h
  refine key _ ?_
  rw [q24_1_eq]
  unfold nmT
  simp only
  by_cases hs : 0 < s
  · rw [kP hs]
    exact aT (decide_eq_true hs) rfl
  · rw [kN0 hs (by decide)]
    exact aF (decide_eq_false hs) rfl
theorem told_2 {nd a n s : Int} {d : List UInt8} {lk : LK} {z : Nat} {l : List Bool} (hn : fit64 nd) (ha : fit64 a) (hm : fit64 n) (hl : l.length ≤ 100000) : R217 [stv ⟨2, nd, a, n, d, s, l⟩ lk z] [] = some (oTd [] (tdL ⟨2, nd, a, n, d, s, l⟩, nmT ⟨2, nd, a, n, d, s, l⟩ lk z)) := by
  have key : ∀ o, (q17_2 nd a n (ba d) s lk z (encB l)).ev = o → R217 [stv ⟨2, nd, a, n, d, s, l⟩ lk z] [] = o := fun o h => by
    rw [Tr.ev_run] at h
    exact h
  refine key _ ?_
  rw [q17_2_eq]
  have ew := fnS_eq (out := oS []) oS_inj (p7' (l := d) (G := []))
  have ea := fnS_eq (out := oS []) oS_inj (s21 ha [])
  unfold nmT
  simp only
  by_cases hs : 0 < s
  · rw [kP hs]
    exact gStep ew (gStep ea (aT (decide_eq_true hs) rfl))
  · rw [kN0 hs (by decide)]
    exact gStep ew (gStep ea (aF (decide_eq_false hs) rfl))
theorem named_2 {nd a n s : Int} {d : List UInt8} {lk : LK} {z : Nat} {l : List Bool} (hn : fit64 nd) (ha : fit64 a) (hm : fit64 n) (hl : l.length ≤ 100000) : R224 [stv ⟨2, nd, a, n, d, s, l⟩ lk z] [] = some (oSt [] (nmT ⟨2, nd, a, n, d, s, l⟩ lk z)) := by
  have key : ∀ o, (q24_2 nd a n (ba d) s lk z (encB l)).ev = o → R224 [stv ⟨2, nd, a, n, d, s, l⟩ lk z] [] = o := fun o h => by
    rw [Tr.ev_run] at h
    exact h
  refine key _ ?_
  rw [q24_2_eq]
  unfold nmT
  simp only
  by_cases hs : 0 < s
  · rw [kP hs]
    exact aT (decide_eq_true hs) rfl
  · rw [kN0 hs (by decide)]
    exact aF (decide_eq_false hs) rfl
theorem told_3 {nd a n s : Int} {d : List UInt8} {lk : LK} {z : Nat} {l : List Bool} (hn : fit64 nd) (ha : fit64 a) (hm : fit64 n) (hl : l.length ≤ 100000) : R217 [stv ⟨3, nd, a, n, d, s, l⟩ lk z] [] = some (oTd [] (tdL ⟨3, nd, a, n, d, s, l⟩, nmT ⟨3, nd, a, n, d, s, l⟩ lk z)) := by
  have key : ∀ o, (q17_3 nd a n (ba d) s lk z (encB l)).ev = o → R217 [stv ⟨3, nd, a, n, d, s, l⟩ lk z] [] = o := fun o h => by
    rw [Tr.ev_run] at h
    exact h
  refine key _ ?_
  rw [q17_3_eq]
  unfold nmT
  simp only
  by_cases hs : 0 < s
  · rw [kP hs]
    exact aT (decide_eq_true hs) rfl
  · rw [kN0 hs (by decide)]
    exact aF (decide_eq_false hs) rfl
theorem named_3 {nd a n s : Int} {d : List UInt8} {lk : LK} {z : Nat} {l : List Bool} (hn : fit64 nd) (ha : fit64 a) (hm : fit64 n) (hl : l.length ≤ 100000) : R224 [stv ⟨3, nd, a, n, d, s, l⟩ lk z] [] = some (oSt [] (nmT ⟨3, nd, a, n, d, s, l⟩ lk z)) := by
  have key : ∀ o, (q24_3 nd a n (ba d) s lk z (encB l)).ev = o → R224 [stv ⟨3, nd, a, n, d, s, l⟩ lk z] [] = o := fun o h => by
    rw [Tr.ev_run] at h
    exact h
  refine key _ ?_
  rw [q24_3_eq]
  unfold nmT
  simp only
  by_cases hs : 0 < s
  · rw [kP hs]
    exact aT (decide_eq_true hs) rfl
  · rw [kN0 hs (by decide)]
    exact aF (decide_eq_false hs) rfl
theorem told_4 {nd a n s : Int} {d : List UInt8} {lk : LK} {z : Nat} {l : List Bool} (hn : fit64 nd) (ha : fit64 a) (hm : fit64 n) (hl : l.length ≤ 100000) : R217 [stv ⟨4, nd, a, n, d, s, l⟩ lk z] [] = some (oTd [] (tdL ⟨4, nd, a, n, d, s, l⟩, nmT ⟨4, nd, a, n, d, s, l⟩ lk z)) := by
  have key : ∀ o, (q17_4 nd a n (ba d) s lk z (encB l)).ev = o → R217 [stv ⟨4, nd, a, n, d, s, l⟩ lk z] [] = o := fun o h => by
    rw [Tr.ev_run] at h
    exact h
  refine key _ ?_
  rw [q17_4_eq]
  unfold nmT
  simp only
  by_cases hs : 0 < s
  · rw [kP hs]
    exact aT (decide_eq_true hs) rfl
  · rw [kN0 hs (by decide)]
    exact aF (decide_eq_false hs) rfl
theorem named_4 {nd a n s : Int} {d : List UInt8} {lk : LK} {z : Nat} {l : List Bool} (hn : fit64 nd) (ha : fit64 a) (hm : fit64 n) (hl : l.length ≤ 100000) : R224 [stv ⟨4, nd, a, n, d, s, l⟩ lk z] [] = some (oSt [] (nmT ⟨4, nd, a, n, d, s, l⟩ lk z)) := by
  have key : ∀ o, (q24_4 nd a n (ba d) s lk z (encB l)).ev = o → R224 [stv ⟨4, nd, a, n, d, s, l⟩ lk z] [] = o := fun o h => by
    rw [Tr.ev_run] at h
    exact h
  refine key _ ?_
  rw [q24_4_eq]
  unfold nmT
  simp only
  by_cases hs : 0 < s
  · rw [kP hs]
    exact aT (decide_eq_true hs) rfl
  · rw [kN0 hs (by decide)]
    exact aF (decide_eq_false hs) rfl
theorem told_5 {nd a n s : Int} {d : List UInt8} {lk : LK} {z : Nat} {l : List Bool} (hn : fit64 nd) (ha : fit64 a) (hm : fit64 n) (hl : l.length ≤ 100000) : R217 [stv ⟨5, nd, a, n, d, s, l⟩ lk z] [] = some (oTd [] (tdL ⟨5, nd, a, n, d, s, l⟩, nmT ⟨5, nd, a, n, d, s, l⟩ lk z)) := by
  have key : ∀ o, (q17_5 nd a n (ba d) s lk z (encB l)).ev = o → R217 [stv ⟨5, nd, a, n, d, s, l⟩ lk z] [] = o := fun o h => by
    rw [Tr.ev_run] at h
    exact h
  refine key _ ?_
  rw [q17_5_eq]
  unfold nmT
  simp only
  by_cases hs : 0 < s
  · rw [kP hs]
    exact aT (decide_eq_true hs) rfl
  · rw [kN0 hs (by decide)]
    exact aF (decide_eq_false hs) rfl
theorem named_5 {nd a n s : Int} {d : List UInt8} {lk : LK} {z : Nat} {l : List Bool} (hn : fit64 nd) (ha : fit64 a) (hm : fit64 n) (hl : l.length ≤ 100000) : R224 [stv ⟨5, nd, a, n, d, s, l⟩ lk z] [] = some (oSt [] (nmT ⟨5, nd, a, n, d, s, l⟩ lk z)) := by
  have key : ∀ o, (q24_5 nd a n (ba d) s lk z (encB l)).ev = o → R224 [stv ⟨5, nd, a, n, d, s, l⟩ lk z] [] = o := fun o h => by
    rw [Tr.ev_run] at h
    exact h
  refine key _ ?_
  rw [q24_5_eq]
  unfold nmT
  simp only
  by_cases hs : 0 < s
  · rw [kP hs]
    exact aT (decide_eq_true hs) rfl
  · rw [kN0 hs (by decide)]
    exact aF (decide_eq_false hs) rfl
theorem told_6 {nd a n s : Int} {d : List UInt8} {lk : LK} {z : Nat} {l : List Bool} (hn : fit64 nd) (ha : fit64 a) (hm : fit64 n) (hl : l.length ≤ 100000) : R217 [stv ⟨6, nd, a, n, d, s, l⟩ lk z] [] = some (oTd [] (tdL ⟨6, nd, a, n, d, s, l⟩, nmT ⟨6, nd, a, n, d, s, l⟩ lk z)) := by
  have key : ∀ o, (q17_6 nd a n (ba d) s lk z (encB l)).ev = o → R217 [stv ⟨6, nd, a, n, d, s, l⟩ lk z] [] = o := fun o h => by
    rw [Tr.ev_run] at h
    exact h
  refine key _ ?_
  rw [q17_6_eq]
  have en := fnS_eq (out := oS []) oS_inj (s21 hn [])
  unfold nmT
  simp only
  by_cases hs : 0 < s
  · rw [kP hs]
    exact gStep en (aT (decide_eq_true hs) rfl)
  · rw [kN0 hs (by decide)]
    exact gStep en (aF (decide_eq_false hs) rfl)
theorem named_6 {nd a n s : Int} {d : List UInt8} {lk : LK} {z : Nat} {l : List Bool} (hn : fit64 nd) (ha : fit64 a) (hm : fit64 n) (hl : l.length ≤ 100000) : R224 [stv ⟨6, nd, a, n, d, s, l⟩ lk z] [] = some (oSt [] (nmT ⟨6, nd, a, n, d, s, l⟩ lk z)) := by
  have key : ∀ o, (q24_6 nd a n (ba d) s lk z (encB l)).ev = o → R224 [stv ⟨6, nd, a, n, d, s, l⟩ lk z] [] = o := fun o h => by
    rw [Tr.ev_run] at h
    exact h
  refine key _ ?_
  rw [q24_6_eq]
  unfold nmT
  simp only
  by_cases hs : 0 < s
  · rw [kP hs]
    exact aT (decide_eq_true hs) rfl
  · rw [kN0 hs (by decide)]
    exact aF (decide_eq_false hs) rfl
theorem told_7 {nd a n s : Int} {d : List UInt8} {lk : LK} {z : Nat} {l : List Bool} (hn : fit64 nd) (ha : fit64 a) (hm : fit64 n) (hl : l.length ≤ 100000) : R217 [stv ⟨7, nd, a, n, d, s, l⟩ lk z] [] = some (oTd [] (tdL ⟨7, nd, a, n, d, s, l⟩, nmT ⟨7, nd, a, n, d, s, l⟩ lk z)) := by
  have key : ∀ o, (q17_7 nd a n (ba d) s lk z (encB l)).ev = o → R217 [stv ⟨7, nd, a, n, d, s, l⟩ lk z] [] = o := fun o h => by
    rw [Tr.ev_run] at h
    exact h
  refine key _ ?_
  rw [q17_7_eq]
  have em := fnS_eq (out := oS []) oS_inj (s21 hm [])
  unfold nmT
  simp only
  by_cases hs : 0 < s
  · rw [kP hs]
    exact gStep em (aT (decide_eq_true hs) rfl)
  · rw [kN0 hs (by decide)]
    exact gStep em (aF (decide_eq_false hs) rfl)
theorem named_7 {nd a n s : Int} {d : List UInt8} {lk : LK} {z : Nat} {l : List Bool} (hn : fit64 nd) (ha : fit64 a) (hm : fit64 n) (hl : l.length ≤ 100000) : R224 [stv ⟨7, nd, a, n, d, s, l⟩ lk z] [] = some (oSt [] (nmT ⟨7, nd, a, n, d, s, l⟩ lk z)) := by
  have key : ∀ o, (q24_7 nd a n (ba d) s lk z (encB l)).ev = o → R224 [stv ⟨7, nd, a, n, d, s, l⟩ lk z] [] = o := fun o h => by
    rw [Tr.ev_run] at h
    exact h
  refine key _ ?_
  rw [q24_7_eq]
  unfold nmT
  simp only
  by_cases hs : 0 < s
  · rw [kP hs]
    exact aT (decide_eq_true hs) rfl
  · rw [kN0 hs (by decide)]
    exact aF (decide_eq_false hs) rfl
theorem told_8 {nd a n s : Int} {d : List UInt8} {lk : LK} {z : Nat} {l : List Bool} (hn : fit64 nd) (ha : fit64 a) (hm : fit64 n) (hl : l.length ≤ 100000) : R217 [stv ⟨8, nd, a, n, d, s, l⟩ lk z] [] = some (oTd [] (tdL ⟨8, nd, a, n, d, s, l⟩, nmT ⟨8, nd, a, n, d, s, l⟩ lk z)) := by
  have key : ∀ o, (q17_8 nd a n (ba d) s lk z (encB l)).ev = o → R217 [stv ⟨8, nd, a, n, d, s, l⟩ lk z] [] = o := fun o h => by
    rw [Tr.ev_run] at h
    exact h
  refine key _ ?_
  rw [q17_8_eq]
  have em := fnS_eq (out := oS []) oS_inj (s21 hm [])
  unfold nmT
  simp only
  by_cases hs : 0 < s
  · rw [kP hs]
    exact gStep em (aT (decide_eq_true hs) rfl)
  · rw [kN0 hs (by decide)]
    exact gStep em (aF (decide_eq_false hs) rfl)
theorem named_8 {nd a n s : Int} {d : List UInt8} {lk : LK} {z : Nat} {l : List Bool} (hn : fit64 nd) (ha : fit64 a) (hm : fit64 n) (hl : l.length ≤ 100000) : R224 [stv ⟨8, nd, a, n, d, s, l⟩ lk z] [] = some (oSt [] (nmT ⟨8, nd, a, n, d, s, l⟩ lk z)) := by
  have key : ∀ o, (q24_8 nd a n (ba d) s lk z (encB l)).ev = o → R224 [stv ⟨8, nd, a, n, d, s, l⟩ lk z] [] = o := fun o h => by
    rw [Tr.ev_run] at h
    exact h
  refine key _ ?_
  rw [q24_8_eq]
  unfold nmT
  simp only
  by_cases hs : 0 < s
  · rw [kP hs]
    exact aT (decide_eq_true hs) rfl
  · rw [kN0 hs (by decide)]
    exact aF (decide_eq_false hs) rfl
theorem told_9 {nd a n s : Int} {d : List UInt8} {lk : LK} {z : Nat} {l : List Bool} (hn : fit64 nd) (ha : fit64 a) (hm : fit64 n) (hl : l.length ≤ 100000) : R217 [stv ⟨9, nd, a, n, d, s, l⟩ lk z] [] = some (oTd [] (tdL ⟨9, nd, a, n, d, s, l⟩, nmT ⟨9, nd, a, n, d, s, l⟩ lk z)) := by
  have key : ∀ o, (q17_9 nd a n (ba d) s lk z (encB l)).ev = o → R217 [stv ⟨9, nd, a, n, d, s, l⟩ lk z] [] = o := fun o h => by
    rw [Tr.ev_run] at h
    exact h
  refine key _ ?_
  rw [q17_9_eq]
  have em := fnS_eq (out := oS []) oS_inj (s21 hm [])
  unfold nmT
  simp only
  by_cases hs : 0 < s
  · rw [kP hs]
    exact gStep em (aT (decide_eq_true hs) rfl)
  · rw [kN0 hs (by decide)]
    exact gStep em (aF (decide_eq_false hs) rfl)
theorem named_9 {nd a n s : Int} {d : List UInt8} {lk : LK} {z : Nat} {l : List Bool} (hn : fit64 nd) (ha : fit64 a) (hm : fit64 n) (hl : l.length ≤ 100000) : R224 [stv ⟨9, nd, a, n, d, s, l⟩ lk z] [] = some (oSt [] (nmT ⟨9, nd, a, n, d, s, l⟩ lk z)) := by
  have key : ∀ o, (q24_9 nd a n (ba d) s lk z (encB l)).ev = o → R224 [stv ⟨9, nd, a, n, d, s, l⟩ lk z] [] = o := fun o h => by
    rw [Tr.ev_run] at h
    exact h
  refine key _ ?_
  rw [q24_9_eq]
  unfold nmT
  simp only
  by_cases hs : 0 < s
  · rw [kP hs]
    exact aT (decide_eq_true hs) rfl
  · rw [kN0 hs (by decide)]
    exact aF (decide_eq_false hs) rfl
theorem told_10 {nd a n s : Int} {d : List UInt8} {lk : LK} {z : Nat} {l : List Bool} (hn : fit64 nd) (ha : fit64 a) (hm : fit64 n) (hl : l.length ≤ 100000) : R217 [stv ⟨10, nd, a, n, d, s, l⟩ lk z] [] = some (oTd [] (tdL ⟨10, nd, a, n, d, s, l⟩, nmT ⟨10, nd, a, n, d, s, l⟩ lk z)) := by
  have key : ∀ o, (q17_10 nd a n (ba d) s lk z (encB l)).ev = o → R217 [stv ⟨10, nd, a, n, d, s, l⟩ lk z] [] = o := fun o h => by
    rw [Tr.ev_run] at h
    exact h
  refine key _ ?_
  rw [q17_10_eq]
  have ea := fnS_eq (out := oS []) oS_inj (s21 ha [])
  have em := fnS_eq (out := oS []) oS_inj (s21 hm [])
  unfold nmT
  simp only
  by_cases hs : 0 < s
  · rw [kP hs]
    exact gStep ea (gStep em (aT (decide_eq_true hs) rfl))
  · rw [kN0 hs (by decide)]
    exact gStep ea (gStep em (aF (decide_eq_false hs) rfl))
theorem named_10 {nd a n s : Int} {d : List UInt8} {lk : LK} {z : Nat} {l : List Bool} (hn : fit64 nd) (ha : fit64 a) (hm : fit64 n) (hl : l.length ≤ 100000) : R224 [stv ⟨10, nd, a, n, d, s, l⟩ lk z] [] = some (oSt [] (nmT ⟨10, nd, a, n, d, s, l⟩ lk z)) := by
  have key : ∀ o, (q24_10 nd a n (ba d) s lk z (encB l)).ev = o → R224 [stv ⟨10, nd, a, n, d, s, l⟩ lk z] [] = o := fun o h => by
    rw [Tr.ev_run] at h
    exact h
  refine key _ ?_
  rw [q24_10_eq]
  unfold nmT
  simp only
  by_cases hs : 0 < s
  · rw [kP hs]
    exact aT (decide_eq_true hs) rfl
  · rw [kN0 hs (by decide)]
    exact aF (decide_eq_false hs) rfl
theorem told_11 {nd a n s : Int} {d : List UInt8} {lk : LK} {z : Nat} {l : List Bool} (hn : fit64 nd) (ha : fit64 a) (hm : fit64 n) (hl : l.length ≤ 100000) : R217 [stv ⟨11, nd, a, n, d, s, l⟩ lk z] [] = some (oTd [] (tdL ⟨11, nd, a, n, d, s, l⟩, nmT ⟨11, nd, a, n, d, s, l⟩ lk z)) := by
  have key : ∀ o, (q17_11 nd a n (ba d) s lk z (encB l)).ev = o → R217 [stv ⟨11, nd, a, n, d, s, l⟩ lk z] [] = o := fun o h => by
    rw [Tr.ev_run] at h
    exact h
  refine key _ ?_
  rw [q17_11_eq]
  unfold nmT
  simp only
  by_cases hs : 0 < s
  · rw [kP hs]
    exact aT (decide_eq_true hs) rfl
  · rw [kN0 hs (by decide)]
    exact aF (decide_eq_false hs) rfl
theorem named_11 {nd a n s : Int} {d : List UInt8} {lk : LK} {z : Nat} {l : List Bool} (hn : fit64 nd) (ha : fit64 a) (hm : fit64 n) (hl : l.length ≤ 100000) : R224 [stv ⟨11, nd, a, n, d, s, l⟩ lk z] [] = some (oSt [] (nmT ⟨11, nd, a, n, d, s, l⟩ lk z)) := by
  have key : ∀ o, (q24_11 nd a n (ba d) s lk z (encB l)).ev = o → R224 [stv ⟨11, nd, a, n, d, s, l⟩ lk z] [] = o := fun o h => by
    rw [Tr.ev_run] at h
    exact h
  refine key _ ?_
  rw [q24_11_eq]
  unfold nmT
  simp only
  by_cases hs : 0 < s
  · rw [kP hs]
    exact aT (decide_eq_true hs) rfl
  · rw [kN0 hs (by decide)]
    exact aF (decide_eq_false hs) rfl
theorem told_12 {nd a n s : Int} {d : List UInt8} {lk : LK} {z : Nat} {l : List Bool} (hn : fit64 nd) (ha : fit64 a) (hm : fit64 n) (hl : l.length ≤ 100000) : R217 [stv ⟨12, nd, a, n, d, s, l⟩ lk z] [] = some (oTd [] (tdL ⟨12, nd, a, n, d, s, l⟩, nmT ⟨12, nd, a, n, d, s, l⟩ lk z)) := by
  have key : ∀ o, (q17_12 nd a n (ba d) s lk z (encB l)).ev = o → R217 [stv ⟨12, nd, a, n, d, s, l⟩ lk z] [] = o := fun o h => by
    rw [Tr.ev_run] at h
    exact h
  refine key _ ?_
  rw [q17_12_eq]
  have el := fnS_eq (out := oS []) oS_inj (s12 (k := lk) (z := z) (l := l) (by omega) [])
  have en := fnS_eq (out := oS []) oS_inj (s21 hn [])
  unfold nmT
  simp only
  by_cases hs : 0 < s
  · rw [k12]
    exact gStep el (gStep en (aT (decide_eq_true hs) rfl))
  · rw [k12]
    exact gStep el (gStep en (aF (decide_eq_false hs) rfl))
theorem named_12 {nd a n s : Int} {d : List UInt8} {lk : LK} {z : Nat} {l : List Bool} (hn : fit64 nd) (ha : fit64 a) (hm : fit64 n) (hl : l.length ≤ 100000) : R224 [stv ⟨12, nd, a, n, d, s, l⟩ lk z] [] = some (oSt [] (nmT ⟨12, nd, a, n, d, s, l⟩ lk z)) := by
  have key : ∀ o, (q24_12 nd a n (ba d) s lk z (encB l)).ev = o → R224 [stv ⟨12, nd, a, n, d, s, l⟩ lk z] [] = o := fun o h => by
    rw [Tr.ev_run] at h
    exact h
  refine key _ ?_
  rw [q24_12_eq]
  unfold nmT
  simp only
  by_cases hs : 0 < s
  · rw [k12]
    exact aT (decide_eq_true hs) rfl
  · rw [k12]
    exact aF (decide_eq_false hs) rfl
theorem told_13 {nd a n s : Int} {d : List UInt8} {lk : LK} {z : Nat} {l : List Bool} (hn : fit64 nd) (ha : fit64 a) (hm : fit64 n) (hl : l.length ≤ 100000) : R217 [stv ⟨13, nd, a, n, d, s, l⟩ lk z] [] = some (oTd [] (tdL ⟨13, nd, a, n, d, s, l⟩, nmT ⟨13, nd, a, n, d, s, l⟩ lk z)) := by
  have key : ∀ o, (q17_13 nd a n (ba d) s lk z (encB l)).ev = o → R217 [stv ⟨13, nd, a, n, d, s, l⟩ lk z] [] = o := fun o h => by
    rw [Tr.ev_run] at h
    exact h
  refine key _ ?_
  rw [q17_13_eq]
  have en := fnS_eq (out := oS []) oS_inj (s21 hn [])
  unfold nmT
  simp only
  by_cases hs : 0 < s
  · rw [kP hs]
    exact gStep en (aT (decide_eq_true hs) rfl)
  · rw [kN0 hs (by decide)]
    exact gStep en (aF (decide_eq_false hs) rfl)
theorem named_13 {nd a n s : Int} {d : List UInt8} {lk : LK} {z : Nat} {l : List Bool} (hn : fit64 nd) (ha : fit64 a) (hm : fit64 n) (hl : l.length ≤ 100000) : R224 [stv ⟨13, nd, a, n, d, s, l⟩ lk z] [] = some (oSt [] (nmT ⟨13, nd, a, n, d, s, l⟩ lk z)) := by
  have key : ∀ o, (q24_13 nd a n (ba d) s lk z (encB l)).ev = o → R224 [stv ⟨13, nd, a, n, d, s, l⟩ lk z] [] = o := fun o h => by
    rw [Tr.ev_run] at h
    exact h
  refine key _ ?_
  rw [q24_13_eq]
  unfold nmT
  simp only
  by_cases hs : 0 < s
  · rw [kP hs]
    exact aT (decide_eq_true hs) rfl
  · rw [kN0 hs (by decide)]
    exact aF (decide_eq_false hs) rfl
theorem told_14 {nd a n s : Int} {d : List UInt8} {lk : LK} {z : Nat} {l : List Bool} (hn : fit64 nd) (ha : fit64 a) (hm : fit64 n) (hl : l.length ≤ 100000) : R217 [stv ⟨14, nd, a, n, d, s, l⟩ lk z] [] = some (oTd [] (tdL ⟨14, nd, a, n, d, s, l⟩, nmT ⟨14, nd, a, n, d, s, l⟩ lk z)) := by
  have key : ∀ o, (q17_14 nd a n (ba d) s lk z (encB l)).ev = o → R217 [stv ⟨14, nd, a, n, d, s, l⟩ lk z] [] = o := fun o h => by
    rw [Tr.ev_run] at h
    exact h
  refine key _ ?_
  rw [q17_14_eq]
  have ea := fnS_eq (out := oS []) oS_inj (s21 ha [])
  unfold nmT
  simp only
  by_cases hs : 0 < s
  · rw [kP hs]
    exact gStep ea (aT (decide_eq_true hs) rfl)
  · rw [kN0 hs (by decide)]
    exact gStep ea (aF (decide_eq_false hs) rfl)
theorem named_14 {nd a n s : Int} {d : List UInt8} {lk : LK} {z : Nat} {l : List Bool} (hn : fit64 nd) (ha : fit64 a) (hm : fit64 n) (hl : l.length ≤ 100000) : R224 [stv ⟨14, nd, a, n, d, s, l⟩ lk z] [] = some (oSt [] (nmT ⟨14, nd, a, n, d, s, l⟩ lk z)) := by
  have key : ∀ o, (q24_14 nd a n (ba d) s lk z (encB l)).ev = o → R224 [stv ⟨14, nd, a, n, d, s, l⟩ lk z] [] = o := fun o h => by
    rw [Tr.ev_run] at h
    exact h
  refine key _ ?_
  rw [q24_14_eq]
  unfold nmT
  simp only
  by_cases hs : 0 < s
  · rw [kP hs]
    exact aT (decide_eq_true hs) rfl
  · rw [kN0 hs (by decide)]
    exact aF (decide_eq_false hs) rfl
theorem told_15 {nd a n s : Int} {d : List UInt8} {lk : LK} {z : Nat} {l : List Bool} (hn : fit64 nd) (ha : fit64 a) (hm : fit64 n) (hl : l.length ≤ 100000) : R217 [stv ⟨15, nd, a, n, d, s, l⟩ lk z] [] = some (oTd [] (tdL ⟨15, nd, a, n, d, s, l⟩, nmT ⟨15, nd, a, n, d, s, l⟩ lk z)) := by
  have key : ∀ o, (q17_15 nd a n (ba d) s lk z (encB l)).ev = o → R217 [stv ⟨15, nd, a, n, d, s, l⟩ lk z] [] = o := fun o h => by
    rw [Tr.ev_run] at h
    exact h
  refine key _ ?_
  rw [q17_15_eq]
  have en := fnS_eq (out := oS []) oS_inj (s21 hn [])
  unfold nmT
  simp only
  by_cases hs : 0 < s
  · rw [kP hs]
    exact gStep en (aT (decide_eq_true hs) rfl)
  · rw [kN0 hs (by decide)]
    exact gStep en (aF (decide_eq_false hs) rfl)
theorem named_15 {nd a n s : Int} {d : List UInt8} {lk : LK} {z : Nat} {l : List Bool} (hn : fit64 nd) (ha : fit64 a) (hm : fit64 n) (hl : l.length ≤ 100000) : R224 [stv ⟨15, nd, a, n, d, s, l⟩ lk z] [] = some (oSt [] (nmT ⟨15, nd, a, n, d, s, l⟩ lk z)) := by
  have key : ∀ o, (q24_15 nd a n (ba d) s lk z (encB l)).ev = o → R224 [stv ⟨15, nd, a, n, d, s, l⟩ lk z] [] = o := fun o h => by
    rw [Tr.ev_run] at h
    exact h
  refine key _ ?_
  rw [q24_15_eq]
  unfold nmT
  simp only
  by_cases hs : 0 < s
  · rw [kP hs]
    exact aT (decide_eq_true hs) rfl
  · rw [kN0 hs (by decide)]
    exact aF (decide_eq_false hs) rfl
theorem p217 {x : Stw} {lk : LK} {z : Nat} (hf : fitW x) (h1 : 1 ≤ x.kind) (h2 : x.kind ≤ 15) (hl : x.keep.length ≤ 100000) (G : List Ent) : P217 [stv x lk z] G = some (oTd G (tdL x, nmT x lk z)) := by
  obtain ⟨k, nd, a, n, d, s, l⟩ := x
  obtain ⟨_, f1, f2, f3, _⟩ := hf
  simp only at h1 h2 hl f1 f2 f3
  unfold P217
  have hk : k = 1 ∨ k = 2 ∨ k = 3 ∨ k = 4 ∨ k = 5 ∨ k = 6 ∨ k = 7 ∨ k = 8 ∨ k = 9 ∨ k = 10 ∨ k = 11 ∨ k = 12 ∨ k = 13 ∨ k = 14 ∨ k = 15 := by omega
  rcases hk with rfl | rfl | rfl | rfl | rfl | rfl | rfl | rfl | rfl | rfl | rfl | rfl | rfl | rfl | rfl
  · exact pureS_eq (G0 := []) rfl (told_1 f1 f2 f3 hl) rfl
  · exact pureS_eq (G0 := []) rfl (told_2 f1 f2 f3 hl) rfl
  · exact pureS_eq (G0 := []) rfl (told_3 f1 f2 f3 hl) rfl
  · exact pureS_eq (G0 := []) rfl (told_4 f1 f2 f3 hl) rfl
  · exact pureS_eq (G0 := []) rfl (told_5 f1 f2 f3 hl) rfl
  · exact pureS_eq (G0 := []) rfl (told_6 f1 f2 f3 hl) rfl
  · exact pureS_eq (G0 := []) rfl (told_7 f1 f2 f3 hl) rfl
  · exact pureS_eq (G0 := []) rfl (told_8 f1 f2 f3 hl) rfl
  · exact pureS_eq (G0 := []) rfl (told_9 f1 f2 f3 hl) rfl
  · exact pureS_eq (G0 := []) rfl (told_10 f1 f2 f3 hl) rfl
  · exact pureS_eq (G0 := []) rfl (told_11 f1 f2 f3 hl) rfl
  · exact pureS_eq (G0 := []) rfl (told_12 f1 f2 f3 hl) rfl
  · exact pureS_eq (G0 := []) rfl (told_13 f1 f2 f3 hl) rfl
  · exact pureS_eq (G0 := []) rfl (told_14 f1 f2 f3 hl) rfl
  · exact pureS_eq (G0 := []) rfl (told_15 f1 f2 f3 hl) rfl
theorem p224 {x : Stw} {lk : LK} {z : Nat} (hf : fitW x) (h1 : 1 ≤ x.kind) (h2 : x.kind ≤ 15) (hl : x.keep.length ≤ 100000) (G : List Ent) : P224 [stv x lk z] G = some (oSt G (nmT x lk z)) := by
  obtain ⟨k, nd, a, n, d, s, l⟩ := x
  obtain ⟨_, f1, f2, f3, _⟩ := hf
  simp only at h1 h2 hl f1 f2 f3
  unfold P224
  have hk : k = 1 ∨ k = 2 ∨ k = 3 ∨ k = 4 ∨ k = 5 ∨ k = 6 ∨ k = 7 ∨ k = 8 ∨ k = 9 ∨ k = 10 ∨ k = 11 ∨ k = 12 ∨ k = 13 ∨ k = 14 ∨ k = 15 := by omega
  rcases hk with rfl | rfl | rfl | rfl | rfl | rfl | rfl | rfl | rfl | rfl | rfl | rfl | rfl | rfl | rfl
  · exact pureS_eq (G0 := []) rfl (named_1 f1 f2 f3 hl) rfl
  · exact pureS_eq (G0 := []) rfl (named_2 f1 f2 f3 hl) rfl
  · exact pureS_eq (G0 := []) rfl (named_3 f1 f2 f3 hl) rfl
  · exact pureS_eq (G0 := []) rfl (named_4 f1 f2 f3 hl) rfl
  · exact pureS_eq (G0 := []) rfl (named_5 f1 f2 f3 hl) rfl
  · exact pureS_eq (G0 := []) rfl (named_6 f1 f2 f3 hl) rfl
  · exact pureS_eq (G0 := []) rfl (named_7 f1 f2 f3 hl) rfl
  · exact pureS_eq (G0 := []) rfl (named_8 f1 f2 f3 hl) rfl
  · exact pureS_eq (G0 := []) rfl (named_9 f1 f2 f3 hl) rfl
  · exact pureS_eq (G0 := []) rfl (named_10 f1 f2 f3 hl) rfl
  · exact pureS_eq (G0 := []) rfl (named_11 f1 f2 f3 hl) rfl
  · exact pureS_eq (G0 := []) rfl (named_12 f1 f2 f3 hl) rfl
  · exact pureS_eq (G0 := []) rfl (named_13 f1 f2 f3 hl) rfl
  · exact pureS_eq (G0 := []) rfl (named_14 f1 f2 f3 hl) rfl
  · exact pureS_eq (G0 := []) rfl (named_15 f1 f2 f3 hl) rfl
end Go.Eng
end
