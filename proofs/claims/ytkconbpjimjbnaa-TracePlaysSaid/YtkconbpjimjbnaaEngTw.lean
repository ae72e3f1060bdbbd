/- Callees' trees, one by one. -/
import Derived.Test.YtkconbpjimjbnaaEngTu
import Derived.Test.YtkconbpjimjbnaaEngFn
namespace Go.Eng
open Go

def tNone : TOrc := fun _ _ _ => .fail

def tCons (n : Nat) (s : List AV → List Ent → Tr (AV × List Ent)) (t : TOrc) : TOrc := fun f a G => if f = n then s a G else t f a G

theorem COk.sub {P : Program} {f : FuncId} {S S' : Spec} (h : COk P f S) (hs : ∀ a G r, S' a G = some r → S a G = some r) : COk P f S' :=
  fun c xs G vs r G1 h1 => h c xs G vs r G1 (hs _ _ _ h1)

theorem COk.nothing {P : Program} {f : FuncId} {S : Spec} (hs : ∀ a G, S a G = none) : COk P f S :=
  fun c xs G vs r G1 h1 => by rw [hs] at h1; cases h1

theorem TOk.nil {P : Program} : TOk P tNone := fun _ => COk.nothing fun _ _ => rfl

theorem TOk.cons {P : Program} {n : Nat} {s : List AV → List Ent → Tr (AV × List Ent)} {t : TOrc} (h : COk P n (fun a G => (s a G).run)) (ht : TOk P t) : TOk P (tCons n s t) := by
  intro f
  by_cases hf : f = n
  · subst hf
    refine h.sub fun a G r hr => ?_
    simpa only [tCons, if_true] using hr
  · refine (ht f).sub fun a G r hr => ?_
    simpa only [tCons, if_neg hf] using hr

theorem COk.spec {P : Program} {f : FuncId} {S : Spec} {B : List AV → List Ent → Type} {out : (a : List AV) → (G : List Ent) → B a G → AV × List Ent} (h : COk P f S) : COk P f (fun a G => (tspec (out a G) (S a G)).run) :=
  h.sub fun _ _ _ hr => tspec_ok hr

end Go.Eng
