/- What the functions of lists come to; the two functions of answers as trees. -/
import Derived.Test.YtkconbpjimjbnaaSaB
import Derived.Test.YtkconbpjimjbnaaEngTw
namespace Go.Eng
open Go
set_option maxRecDepth 100000

theorem f48t_eq (k1 k2 : LK) (xs ys : Row) (G : List Ent) : (f48t k1 k2 xs ys G).ev =
  (rAsk ((((List.length xs) : Nat) : Int) != (((List.length ys) : Nat) : Int))
   (some ((AV.dat (D.bool false)), G))
   (rGet (loS TT (TOrc.runs (tinF 0)) H48 lp48 (outB 26 G) (St.mk (mkT 0 26 [(0, (AV.dat (D.list k1 1 xs))), (1, (AV.dat (D.list k2 1 ys))), (12, (AV.dat (D.int IntKind.i64 (((List.length xs) : Nat) : Int)))), (13, (AV.dat (D.int IntKind.i64 (0 : Int))))]) (Mem.mk [] G 0))) fun x1 =>
    (rAsk x1
     (some ((AV.dat (D.bool true)), G))
     (some ((AV.dat (D.bool false)), G))
    )
   )
  )
  := by kernel_rfl

theorem f49t_eq (k1 k2 : LK) (xs ys : Row) (G : List Ent) : (f49t k1 k2 xs ys G).ev =
  (rAsk ((((List.length xs) : Nat) : Int) != (((List.length ys) : Nat) : Int))
   (some ((AV.dat (D.bool false)), G))
   (rGet (loS TT (TOrc.runs (tinF 0)) H49 lp49 (outB 26 G) (St.mk (mkT 0 26 [(0, (AV.dat (D.list k1 1 xs))), (1, (AV.dat (D.list k2 1 ys))), (5, (AV.dat (D.int IntKind.i64 (0 : Int))))]) (Mem.mk [] G 0))) fun x1 =>
    (rAsk x1
     (some ((AV.dat (D.bool true)), G))
     (some ((AV.dat (D.bool false)), G))
    )
   )
  )
  := by kernel_rfl

theorem outB_inj {N : Nat} {G : List Ent} : ∀ x y, outB N G x = outB N G y → x = y := by
  intro x y h
  cases x <;> cases y <;> first | rfl | (simp [outB] at h)

theorem f48_run {k1 k2 : LK} {us vs : List Int} {G : List Ent} (hm : us.length ≤ maxLen) : (f48t k1 k2 (encI us) (encI vs) G).run = some (.dat (.bool (decide (us = vs))), G) := by
  rw [← Tr.ev_run, f48t_eq]
  simp only [encI_len]
  by_cases hl : us.length = vs.length
  · have h1 : (((us.length : Nat) : Int) != ((vs.length : Nat) : Int)) = false := by simp [hl]
    have h2 := loS_eq outB_inj (loop48 (k1 := k1) (k2 := k2) (G := G) hl hm us.length 0 (by omega))
    simp only [List.drop_zero] at h2
    have h3 : loS TT (tinF 0).runs H48 lp48 (outB 26 G) (inv48 k1 k2 (encI us) (encI vs) G us.length 0) = some (decide (us = vs)) := h2
    unfold inv48 at h3
    simp only [h1, rAsk, h3, rGet]
    cases decide (us = vs) <;> rfl
  · have h1 : (((us.length : Nat) : Int) != ((vs.length : Nat) : Int)) = true := by simp; omega
    have h2 : decide (us = vs) = false := decide_eq_false fun e => hl (by rw [e])
    simp only [h1, rAsk, h2]

theorem f49_run {k1 k2 : LK} {us vs : List Int} {G : List Ent} (hm : us.length ≤ maxLen) : (f49t k1 k2 (encI us) (encI vs) G).run = some (.dat (.bool (decide (us = vs))), G) := by
  rw [← Tr.ev_run, f49t_eq]
  simp only [encI_len]
  by_cases hl : us.length = vs.length
  · have h1 : (((us.length : Nat) : Int) != ((vs.length : Nat) : Int)) = false := by simp [hl]
    have h2 := loS_eq outB_inj (loop49 (k1 := k1) (k2 := k2) (G := G) hl hm us.length 0 (by omega))
    simp only [List.drop_zero] at h2
    have h3 : loS TT (tinF 0).runs H49 lp49 (outB 26 G) (inv49 k1 k2 (encI us) (encI vs) G 0) = some (decide (us = vs)) := h2
    unfold inv49 at h3
    simp only [h1, rAsk, h3, rGet]
    cases decide (us = vs) <;> rfl
  · have h1 : (((us.length : Nat) : Int) != ((vs.length : Nat) : Int)) = true := by simp; omega
    have h2 : decide (us = vs) = false := decide_eq_false fun e => hl (by rw [e])
    simp only [h1, rAsk, h2]

/-! ### contracts -/
noncomputable def R48 (a : List AV) (G : List Ent) : Option (AV × List Ent) := (tfn TT (tinF 0) lo48 Go.Proofs.Try.f48 a G).run
noncomputable def R49 (a : List AV) (G : List Ent) : Option (AV × List Ent) := (tfn TT (tinF 0) lo49 Go.Proofs.Try.f49 a G).run

def outb (G : List Ent) (b : Bool) : AV × List Ent := (.dat (.bool b), G)

theorem outb_inj {G : List Ent} : ∀ x y, outb G x = outb G y → x = y := by
  intro x y h
  simp only [outb, Prod.mk.injEq, AV.dat.injEq, D.bool.injEq, and_true] at h
  exact h

theorem tin0_ok : TOk Go.Proofs.Try.prog (tinF 0) := fun _ => COk.nothing fun _ _ => rfl

theorem lo48_ok : ∀ c, Go.Proofs.Try.f48.body = some c → LoOk2 TT (tinF 0).runs H48 lo48 c := by
  intro c hc
  refine LoOk2.of c fun b hb st r h => ?_
  have hcc : c = codeOf Go.Proofs.Try.f48 := by unfold codeOf; rw [hc]; rfl
  have hl : loops c = [lp48] := by rw [hcc]; kernel_rfl
  rw [hl] at hb
  obtain rfl := List.mem_singleton.1 hb
  rw [show firstRegion lp48 = 4 from by kernel_rfl] at h
  exact tloB_ok h

theorem lo49_ok : ∀ c, Go.Proofs.Try.f49.body = some c → LoOk2 TT (tinF 0).runs H49 lo49 c := by
  intro c hc
  refine LoOk2.of c fun b hb st r h => ?_
  have hcc : c = codeOf Go.Proofs.Try.f49 := by unfold codeOf; rw [hc]; rfl
  have hl : loops c = [lp49] := by rw [hcc]; kernel_rfl
  rw [hl] at hb
  obtain rfl := List.mem_singleton.1 hb
  rw [show firstRegion lp49 = 4 from by kernel_rfl] at h
  exact tloB_ok h

theorem c48 : COk Go.Proofs.Try.prog 48 R48 := tok_fn TT_ok tin0_ok Go.Proofs.Try.func48 (by kernel_rfl) lo48_ok
theorem c49 : COk Go.Proofs.Try.prog 49 R49 := tok_fn TT_ok tin0_ok Go.Proofs.Try.func49 (by kernel_rfl) lo49_ok

noncomputable def t1 : TOrc := tCons 48 (fun a G => tspec (outb G) (R48 a G)) (tCons 49 (fun a G => tspec (outb G) (R49 a G)) tNone)

theorem t1_ok : TOk Go.Proofs.Try.prog t1 := TOk.cons (COk.spec (out := fun _ G => outb G) c48) (TOk.cons (COk.spec (out := fun _ G => outb G) c49) TOk.nil)

/-- an answer -/
def ans (w n m : Int) (s : ByteArray) (k : LK) (xs : Row) : AV := .agg [.dat (.int .i64 w), .dat (.int .i64 n), .dat (.int .i64 m), .dat (.str s), .dat (.list k 1 xs)]

noncomputable def f24t (w n m : Int) (s : ByteArray) (k : LK) (xs : Row) (w' n' m' : Int) (s' : ByteArray) (k' : LK) (xs' : Row) (G : List Ent) : Tr (AV × List Ent) :=
  tfn TT t1 noLo Go.Proofs.Try.f24 [ans w n m s k xs, ans w' n' m' s' k' xs'] G
noncomputable def f25t (w n m : Int) (s : ByteArray) (k : LK) (xs : Row) (w' n' m' : Int) (s' : ByteArray) (k' : LK) (xs' : Row) (G : List Ent) : Tr (AV × List Ent) :=
  tfn TT t1 noLo Go.Proofs.Try.f25 [ans w n m s k xs, ans w' n' m' s' k' xs'] G

end Go.Eng
