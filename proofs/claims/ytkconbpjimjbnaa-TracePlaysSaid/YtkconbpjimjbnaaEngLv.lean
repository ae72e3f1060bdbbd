/- Which temps a loop's head wants: a choice only; any choice is sound. -/
import Derived.Test.YtkconbpjimjbnaaEngA
namespace Go.Eng
open Go

def tmpsOf (l : List Operand) : List Nat := l.filterMap fun | .tmp t => some t | _ => none

def union (a b : List Nat) : List Nat := b.foldl (fun s x => if s.contains x then s else x :: s) a

def liveOps (ops : List Oper) : List Oper → List Nat → List Nat
  | [], out => out
  | o :: r, out =>
    let l := liveOps ops r out
    let l := match o.dst with
      | some d => l.filter (· != d)
      | none => l
    union l (looks ops o)

/-- what is wanted where a loop's body leaves it -/
def outsOf (rets : List Nat) : Code → List (Nat × List Nat) → List Nat → List Nat
  | .seq a b, env, inn => union (outsOf rets a env inn) (outsOf rets b env inn)
  | .cond _ a b, env, inn => union (outsOf rets a env inn) (outsOf rets b env inn)
  | .block id b, env, inn => outsOf rets b env (id :: inn)
  | .scope b, env, inn => outsOf rets b env inn
  | .loop b, env, inn => outsOf rets b env inn
  | .exit id, env, inn => if inn.contains id then [] else (env.lookup id).getD []
  | .ret, _, _ => rets
  | _, _, _ => []

/-- live temps ahead of the code, and those at loops' heads -/
def liveC (rets : List Nat) : Code → List Nat → List (Nat × List Nat) → List Nat × List (Nat × List Nat)
  | .skip, out, _ => (out, [])
  | .region _ ops _, out, _ => (liveOps ops.toList ops.toList out, [])
  | .seq a b, out, env =>
    let q := liveC rets b out env
    let p := liveC rets a q.1 env
    (p.1, p.2 ++ q.2)
  | .cond c a b, out, env =>
    let p := liveC rets a out env
    let q := liveC rets b out env
    (union (union p.1 q.1) (tmpsOf [c]), p.2 ++ q.2)
  | .block id b, out, env => liveC rets b out ((id, out) :: env)
  | .scope b, out, env => liveC rets b out env
  | .label _, out, _ => (out, [])
  | .loop b, _, env =>
    let x1 := (liveC rets b [] env).1
    let x2 := (liveC rets b x1 env).1
    let q := liveC rets b x2 env
    (q.1, (firstRegion b, q.1) :: (firstRegion b + 1000000, outsOf rets b env []) :: q.2)
  | .exit id, _, env => ((env.lookup id).getD [], [])
  | .ret, _, _ => (rets, [])
  | _, _, _ => ([], [])

def insSorted (x : Nat) : List Nat → List Nat
  | [] => [x]
  | y :: r => if x < y then x :: y :: r else if x = y then y :: r else y :: insSorted x r

def sortN (l : List Nat) : List Nat := l.foldl (fun s x => insSorted x s) []

def liveF (fn : Func) : List (Nat × List Nat) :=
  match fn.body with
  | some c =>
    let rets := fn.results.toList.map fun
      | .tmp t => t
      | .cell a _ => a
    ((liveC rets c rets []).2).map fun p => (p.1, sortN p.2)
  | none => []

end Go.Eng
