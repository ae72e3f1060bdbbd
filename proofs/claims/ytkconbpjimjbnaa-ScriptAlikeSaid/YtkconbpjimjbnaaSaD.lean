/- What the two functions of answers come to; the law as a tree. -/
import Derived.Test.YtkconbpjimjbnaaSaC
namespace Go.Eng
open Go
set_option maxRecDepth 100000

theorem f24t_eq (w n m : Int) (s : ByteArray) (k : LK) (xs : Row) (w' n' m' : Int) (s' : ByteArray) (k' : LK) (xs' : Row) (G : List Ent) : (f24t w n m s k xs w' n' m' s' k' xs' G).ev =
  (rAsk (w == w')
   (rAsk (n == n')
    (rAsk (m == m')
     (rAsk ((ByteArray.toList s) == (ByteArray.toList s'))
      (rGet (fnS (fun (b : Bool) => ((AV.dat (D.bool b)), G)) (R48 [(AV.dat (D.list k 1 xs)), (AV.dat (D.list k' 1 xs'))] G)) fun x1 =>
       (some ((AV.dat (D.bool x1)), G))
      )
      (some ((AV.dat (D.bool false)), G))
     )
     (some ((AV.dat (D.bool false)), G))
    )
    (some ((AV.dat (D.bool false)), G))
   )
   (some ((AV.dat (D.bool false)), G))
  )
  := by kernel_rfl

theorem f25t_eq (w n m : Int) (s : ByteArray) (k : LK) (xs : Row) (w' n' m' : Int) (s' : ByteArray) (k' : LK) (xs' : Row) (G : List Ent) : (f25t w n m s k xs w' n' m' s' k' xs' G).ev =
  (rAsk (w == w')
   (rAsk (n == n')
    (rAsk (m == m')
     (rAsk ((ByteArray.toList s) == (ByteArray.toList s'))
      (rGet (fnS (fun (b : Bool) => ((AV.dat (D.bool b)), G)) (R49 [(AV.dat (D.list k 1 xs)), (AV.dat (D.list k' 1 xs'))] G)) fun x1 =>
       (some ((AV.dat (D.bool x1)), G))
      )
      (some ((AV.dat (D.bool false)), G))
     )
     (some ((AV.dat (D.bool false)), G))
    )
    (some ((AV.dat (D.bool false)), G))
   )
   (some ((AV.dat (D.bool false)), G))
  )
  := by kernel_rfl

def alikeB (w n m : Int) (s : ByteArray) (us : List Int) (w' n' m' : Int) (s' : ByteArray) (us' : List Int) : Bool :=
  (w == w') && ((n == n') && ((m == m') && ((s.toList == s'.toList) && decide (us = us'))))

theorem f24_run {w n m : Int} {s : ByteArray} {k : LK} {us : List Int} {w' n' m' : Int} {s' : ByteArray} {k' : LK} {us' : List Int} {G : List Ent} (hm : us.length ≤ maxLen) :
    (f24t w n m s k (encI us) w' n' m' s' k' (encI us') G).run = some (.dat (.bool (alikeB w n m s us w' n' m' s' us')), G) := by
  rw [← Tr.ev_run, f24t_eq]
  have h := fnS_eq (out := outb G) outb_inj (show R48 [.dat (.list k 1 (encI us)), .dat (.list k' 1 (encI us'))] G = some (outb G (decide (us = us'))) from f48_run hm)
  unfold outb at h
  rw [h]
  unfold alikeB
  generalize (w == w') = b1
  generalize (n == n') = b2
  generalize (m == m') = b3
  generalize (s.toList == s'.toList) = b4
  cases b1 <;> cases b2 <;> cases b3 <;> cases b4 <;> rfl

theorem f25_run {w n m : Int} {s : ByteArray} {k : LK} {us : List Int} {w' n' m' : Int} {s' : ByteArray} {k' : LK} {us' : List Int} {G : List Ent} (hm : us.length ≤ maxLen) :
    (f25t w n m s k (encI us) w' n' m' s' k' (encI us') G).run = some (.dat (.bool (alikeB w n m s us w' n' m' s' us')), G) := by
  rw [← Tr.ev_run, f25t_eq]
  have h := fnS_eq (out := outb G) outb_inj (show R49 [.dat (.list k 1 (encI us)), .dat (.list k' 1 (encI us'))] G = some (outb G (decide (us = us'))) from f49_run hm)
  unfold outb at h
  rw [h]
  unfold alikeB
  generalize (w == w') = b1
  generalize (n == n') = b2
  generalize (m == m') = b3
  generalize (s.toList == s'.toList) = b4
  cases b1 <;> cases b2 <;> cases b3 <;> cases b4 <;> rfl

/-! ### contracts -/
noncomputable def R24 (a : List AV) (G : List Ent) : Option (AV × List Ent) := (tfn TT t1 noLo Go.Proofs.Try.f24 a G).run
noncomputable def R25 (a : List AV) (G : List Ent) : Option (AV × List Ent) := (tfn TT t1 noLo Go.Proofs.Try.f25 a G).run

theorem c24 : COk Go.Proofs.Try.prog 24 R24 := tok_fn (H := fun _ => []) TT_ok t1_ok Go.Proofs.Try.func24 (by kernel_rfl) fun _ _ => LoOk2.no _
theorem c25 : COk Go.Proofs.Try.prog 25 R25 := tok_fn (H := fun _ => []) TT_ok t1_ok Go.Proofs.Try.func25 (by kernel_rfl) fun _ _ => LoOk2.no _

noncomputable def HH (f n : Nat) : List Nat := match FT f with
  | some fn => ((liveF fn).lookup n).getD []
  | none => []
noncomputable def R18 (a : List AV) (G : List Ent) : Option (AV × List Ent) := orcN FT TT 300 HH 8 18 a G
theorem c18 : COk Go.Proofs.Try.prog 18 R18 := orcN_ok (K := 300) (H := HH) TT_ok (FT := FT) (fun _ _ h => FT_ok h) 8 18

def out18 (G' : List Ent) : AV × List Ent := (.dat (.bool true), G')
theorem out18_inj : ∀ x y, out18 x = out18 y → x = y := by
  intro x y h
  simp only [out18, Prod.mk.injEq, true_and] at h
  exact h

noncomputable def t2 : TOrc := tCons 24 (fun a G => tspec (outb G) (R24 a G)) (tCons 25 (fun a G => tspec (outb G) (R25 a G)) (tCons 18 (fun a G => tspec out18 (R18 a G)) tNone))

theorem t2_ok : TOk Go.Proofs.Try.prog t2 := TOk.cons (COk.spec (out := fun _ G => outb G) c24) (TOk.cons (COk.spec (out := fun _ G => outb G) c25) (TOk.cons (COk.spec (out := fun _ _ => out18) c18) TOk.nil))

noncomputable def f5t (w n m : Int) (s : ByteArray) (k : LK) (xs : Row) (w' n' m' : Int) (s' : ByteArray) (k' : LK) (xs' : Row) : Tr (AV × List Ent) :=
  tfn TT t2 noLo Go.Proofs.Try.f5 [ans w n m s k xs, ans w' n' m' s' k' xs'] []

end Go.Eng
