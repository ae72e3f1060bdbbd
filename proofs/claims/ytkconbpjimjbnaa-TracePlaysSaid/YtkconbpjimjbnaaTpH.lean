/- Trace: contracts, and the law. -/
import Derived.Test.YtkconbpjimjbnaaTpG
import Derived.Test.YtkconbpjimjbnaaEngTy
namespace Go.Eng
open Go
set_option maxRecDepth 100000

theorem lawT_eq (k : LK) (l : Row) : (lawT k l).ev =
  (rAsk (decide ((((List.length l) : Nat) : Int) > (300 : Int)))
   (rGet (fnS (fun (G' : List Ent) => ((AV.dat (D.bool true)), G')) (R8 [] [])) fun x1 =>
    (some ((AV.dat (D.bool true)), x1))
   )
   (rGet (loS TT (TOrc.runs tL) H3 lp3 out6 (St.mk (mkT 0 114 [(0, (AV.dat (D.list k 5 l))), (3, (AV.ptr (Ref.glob 0) 0)), (4, (AV.ptr (Ref.loc 0) 0)), (5, (AV.dat (D.int IntKind.i64 (0 : Int))))]) (Mem.mk [(Option.some (Ent.obj [(AV.dat (D.list LK.nil 0 ([] : Row)))]))] [(Ent.obj [(AV.dat (D.list LK.nil 0 ([] : Row))), (AV.dat (D.int IntKind.i64 (0 : Int))), (AV.dat (D.int IntKind.i64 (0 : Int))), (AV.dat (D.int IntKind.i64 (0 : Int))), (AV.dat (D.int IntKind.i64 (0 : Int))), (AV.dat (D.int IntKind.i64 (0 : Int))), (AV.dat (D.int IntKind.i64 (0 : Int))), (AV.dat (D.int IntKind.i64 (0 : Int))), (AV.dat (D.int IntKind.i64 (0 : Int))), (AV.dat (D.int IntKind.i64 (0 : Int))), (AV.dat (D.int IntKind.i64 (0 : Int))), (AV.dat (D.int IntKind.i64 (0 : Int))), (AV.dat (D.int IntKind.i64 (0 : Int))), (AV.dat (D.int IntKind.i64 (0 : Int))), (AV.dat (D.int IntKind.i64 (0 : Int))), (AV.dat (D.int IntKind.i64 (0 : Int))), (AV.dat (D.int IntKind.i64 (0 : Int))), (AV.dat (D.int IntKind.i64 (0 : Int)))])] 0))) fun x2 =>
    (rGet (fnS (fun (G' : List Ent) => ((AV.dat (D.bool true)), G')) (R8 [] x2)) fun x3 =>
     (some ((AV.dat (D.bool true)), x3))
    )
   )
  )
  := by kernel_rfl

/-! ### contracts -/
theorem names_ok {f : Nat} {fn : Func} (h : FT f = some fn) : (fn.name == "runtime.NumGoroutine") = false := by
  have := BT.get_all (BT.all_ok (q := fun _ (fn : Func) => !(fn.name == "runtime.NumGoroutine")) (show FTree.all (fun _ (fn : Func) => !(fn.name == "runtime.NumGoroutine")) = true by kernel_rfl)) h
  simpa using this

theorem tinF_ok : ∀ n, TOk Go.Proofs.Try.prog (tinF n)
  | 0 => fun _ => COk.nothing fun _ _ => rfl
  | n + 1 => by
    intro f
    cases hf : FT f with
    | none => exact COk.nothing fun a G => by simp only [tinF, hf, Tr.run]
    | some fn =>
      refine (tok_fn (H := fun _ => []) (lo := noLo) TT_ok (tinF_ok n) (FT_ok hf) (names_ok hf) fun _ _ => LoOk2.no _).sub fun a G r hr => ?_
      simpa only [tinF, hf] using hr

theorem cRf (f : Nat) : COk Go.Proofs.Try.prog f (R f) := tinF_ok 3 f

theorem lo14_ok : ∀ c, Go.Proofs.Try.f14.body = some c → LoOk2 TT (tinF 0).runs H14 lo14 c := by
  intro c hc
  refine LoOk2.of c fun b hb st r h => ?_
  have hcc : c = codeOf Go.Proofs.Try.f14 := by unfold codeOf; rw [hc]; rfl
  have hl : loops c = [lp14] := by rw [hcc]; kernel_rfl
  rw [hl] at hb
  obtain rfl := List.mem_singleton.1 hb
  rw [show firstRegion lp14 = 4 from by kernel_rfl] at h
  exact tlo_ok h

theorem lo17_ok : ∀ c, Go.Proofs.Try.f17.body = some c → LoOk2 TT (tinF 0).runs H17 lo17 c := by
  intro c hc
  refine LoOk2.of c fun b hb st r h => ?_
  have hcc : c = codeOf Go.Proofs.Try.f17 := by unfold codeOf; rw [hc]; rfl
  have hl : loops c = [lp17] := by rw [hcc]; kernel_rfl
  rw [hl] at hb
  obtain rfl := List.mem_singleton.1 hb
  rw [show firstRegion lp17 = 3 from by kernel_rfl] at h
  exact tlo_ok h

theorem lo6_ok : ∀ c, Go.Proofs.Try.f3.body = some c → LoOk2 TT tL.runs H3 lo6 c := by
  intro c hc
  refine LoOk2.of c fun b hb st r h => ?_
  have hcc : c = codeOf Go.Proofs.Try.f3 := by unfold codeOf; rw [hc]; rfl
  have hl : loops c = [lp3] := by rw [hcc]; kernel_rfl
  rw [hl] at hb
  obtain rfl := List.mem_singleton.1 hb
  rw [show firstRegion lp3 = 6 from by kernel_rfl] at h
  exact tlo_ok h

theorem c14 : COk Go.Proofs.Try.prog 14 R14 := tok_fn TT_ok tin0_okT Go.Proofs.Try.func14 (by kernel_rfl) lo14_ok
theorem c17 : COk Go.Proofs.Try.prog 17 R17 := tok_fn TT_ok tin0_okT Go.Proofs.Try.func17 (by kernel_rfl) lo17_ok
theorem c8 : COk Go.Proofs.Try.prog 8 R8 := orcN_ok TT_ok (FT := FT) (fun _ _ h => FT_ok h) 6 8

theorem tL_ok : TOk Go.Proofs.Try.prog tL := by
  intro f
  by_cases h8 : f = 8
  · subst h8; exact c8.sub fun a G r hr => tspec_ok hr
  by_cases h9 : f = 9
  · subst h9; exact cRf 9
  by_cases h10 : f = 10
  · subst h10
    refine (cRf 10).sub fun a G r hr => ?_
    cases G with
    | nil => cases hr
    | cons x o2 => exact tspec_ok hr
  by_cases h11 : f = 11
  · subst h11
    refine (cRf 11).sub fun a G r hr => ?_
    match G, hr with
    | [o1, o2], hr => exact tspec_ok hr
    | [], hr => cases hr
    | [_], hr => cases hr
    | _ :: _ :: _ :: _, hr => cases hr
  by_cases h12 : f = 12
  · subst h12; exact (cRf 12).sub fun a G r hr => tspec_ok hr
  by_cases h13 : f = 13
  · subst h13
    refine (cRf 13).sub fun a G r hr => ?_
    simp only [tL] at hr
    split at hr <;> exact tspec_ok hr
  by_cases h14 : f = 14
  · subst h14; exact c14.sub fun a G r hr => tspec_ok hr
  by_cases h15 : f = 15
  · subst h15; exact cRf 15
  by_cases h16 : f = 16
  · subst h16; exact (cRf 16).sub fun a G r hr => tspec_ok hr
  by_cases h17 : f = 17
  · subst h17; exact c17.sub fun a G r hr => tspec_ok hr
  refine COk.nothing fun a G => ?_
  have : tL f a G = .fail := by
    unfold tL
    split <;> first
      | exact absurd rfl ‹_›
      | rfl
      | (exfalso; simp_all)
  rw [this]
  rfl

noncomputable def R3 (a : List AV) (G : List Ent) : Option (AV × List Ent) := (tfnR TT tL lo6 [25] Go.Proofs.Try.f3 a G).run
theorem c3 : COk Go.Proofs.Try.prog 3 R3 := tok_fnR (H := H3) TT_ok tL_ok Go.Proofs.Try.func3 (by kernel_rfl) rfl lo6_ok

/-! ### what is known -/
noncomputable def kOrc (G : List Ent) : Option AV := (R8 [] G).map (·.1)
theorem known0 : kOrc [] = some (.dat (.bool true)) := by kernel_rfl

theorem known_of {G : List Ent} (h : kOrc G = some (.dat (.bool true))) : ∃ G', R8 [] G = some ((AV.dat (D.bool true), G') : AV × List Ent) := by
  unfold kOrc at h
  cases ho : R8 [] G with
  | none => rw [ho] at h; cases h
  | some r =>
    rw [ho] at h
    simp only [Option.map_some, Option.some.injEq] at h
    exact ⟨r.2, by rw [← h]⟩

theorem inj8 : ∀ x y : List Ent, ((AV.dat (D.bool true), x) : AV × List Ent) = (AV.dat (D.bool true), y) → x = y := by
  intro x y h
  simp only [Prod.mk.injEq, true_and] at h
  exact h

theorem out6_inj : ∀ x y, out6 x = out6 y → x = y := by
  intro x y h
  simp only [out6, Prod.mk.injEq, true_and, St.mk.injEq, Mem.mk.injEq, and_true] at h
  exact h

theorem inv_nil : InvT [] (List.replicate 16 0) := by
  refine ⟨fun j hj => by simp at hj, rfl, fun x hx => ?_, fun k h0 h1 => ?_⟩
  · have := List.eq_of_mem_replicate hx
    simp [this]
  · have hk : k.toNat < 16 := by omega
    rw [List.getD_eq_getElem?_getD, List.getElem?_replicate, if_pos hk]
    rfl

end Go.Eng
