/- Which temps a loop's head wants: a choice only; any choice is sound. -/
import Derived.Test.YtkbbgehnooncoaaGreatDoorWp2
section
namespace Go.Eng
open Go
variable [Inhabited Pkg]
set_option linter.unusedSectionVars false

def tmpsOf (l : List Operand) : List Nat := l.filterMap fun | .tmp t => some t | _ => none

def union (a b : List Nat) : List Nat := b.foldl (fun s x => if s.contains x then s else x :: s) a

def liveOps (ops : List Oper) : List Oper → List Nat → List Nat
  | [], out => out
  | o :: r, out =>
    let l := liveOps ops r out
    let l := match o.dst with
      | some d => l.filter (· != d)
      | none => l
    union l (looks ops o)

/-- what is wanted where a loop's body leaves it -/
def outsOf (rets : List Nat) : Code → List (Nat × List Nat) → List Nat → List Nat
  | .seq a b, env, inn => union (outsOf rets a env inn) (outsOf rets b env inn)
  | .cond _ a b, env, inn => union (outsOf rets a env inn) (outsOf rets b env inn)
  | .block id b, env, inn => outsOf rets b env (id :: inn)
  | .scope b, env, inn => outsOf rets b env inn
  | .loop b, env, inn => outsOf rets b env inn
  | .exit id, env, inn => if inn.contains id then [] else (env.lookup id).getD []
  | .ret, _, _ => rets
  | _, _, _ => []

/-- live temps ahead of the code, and those at loops' heads -/
def liveC (rets : List Nat) : Code → List Nat → List (Nat × List Nat) → List Nat × List (Nat × List Nat)
  | .skip, out, _ => (out, [])
  | .region _ ops _, out, _ => (liveOps ops.toList ops.toList out, [])
  | .seq a b, out, env =>
    let q := liveC rets b out env
    let p := liveC rets a q.1 env
    (p.1, p.2 ++ q.2)
  | .cond c a b, out, env =>
    let p := liveC rets a out env
    let q := liveC rets b out env
    (union (union p.1 q.1) (tmpsOf [c]), p.2 ++ q.2)
  | .block id b, out, env => liveC rets b out ((id, out) :: env)
  | .scope b, out, env => liveC rets b out env
  | .label _, out, _ => (out, [])
  | .loop b, _, env =>
    let x1 := (liveC rets b [] env).1
    let x2 := (liveC rets b x1 env).1
    let q := liveC rets b x2 env
    (q.1, (firstRegion b, q.1) :: (firstRegion b + 1000000, outsOf rets b env []) :: q.2)
  | .exit id, _, env => ((env.lookup id).getD [], [])
  | .ret, _, _ => (rets, [])
  | _, _, _ => ([], [])

def insSorted (x : Nat) : List Nat → List Nat
  | [] => [x]
  | y :: r => if x < y then x :: y :: r else if x = y then y :: r else y :: insSorted x r

def sortN (l : List Nat) : List Nat := l.foldl (fun s x => insSorted x s) []

def liveF (fn : Func) : List (Nat × List Nat) :=
  match fn.body with
  | some c =>
    let rets := fn.results.toList.map fun
      | .tmp t => t
      | .cell a _ => a
    ((liveC rets c rets []).2).map fun p => (p.1, sortN p.2)
  | none => []

end Go.Eng
end

/- Tables that are looked up fast. -/
section
namespace Go.Eng
open Go

inductive BT (α : Type) where
  | nil
  | node (l : BT α) (k : Nat) (v : α) (r : BT α)

def BT.get {α : Type} : BT α → Nat → Option α
  | .nil, _ => none
  | .node l k v r, n => match Nat.ble n k with
    | true => match Nat.beq n k with
      | true => some v
      | false => l.get n
    | false => r.get n

def BT.AllP {α : Type} (Q : Nat → α → Prop) : BT α → Prop
  | .nil => True
  | .node l k v r => l.AllP Q ∧ Q k v ∧ r.AllP Q

theorem BT.get_all {α : Type} {Q : Nat → α → Prop} {n : Nat} {v : α} : ∀ {t : BT α}, t.AllP Q → t.get n = some v → Q n v
  | .nil, _, h => by cases h
  | .node l k w r, ⟨h1, h2, h3⟩, h => by
    simp only [BT.get] at h
    split at h
    · split at h
      · rename_i hb
        injection h with h
        rw [Nat.eq_of_beq_eq_true hb, ← h]
        exact h2
      · exact BT.get_all h1 h
    · exact BT.get_all h3 h

def BT.all {α : Type} (q : Nat → α → Bool) : BT α → Bool
  | .nil => true
  | .node l k v r => l.all q && (q k v && r.all q)

theorem BT.all_ok {α : Type} {q : Nat → α → Bool} : ∀ {t : BT α}, t.all q = true → t.AllP fun k v => q k v = true
  | .nil, _ => trivial
  | .node l k v r, h => by
    simp only [BT.all, Bool.and_eq_true] at h
    exact ⟨BT.all_ok h.1, h.2.1, BT.all_ok h.2.2⟩

end Go.Eng
end
