/- Tables that are looked up fast. -/
import Derived.Test.YtkconbpjimjbnaaEngA
namespace Go.Eng
open Go

inductive BT (α : Type) where
  | nil
  | node (l : BT α) (k : Nat) (v : α) (r : BT α)

def BT.get {α : Type} : BT α → Nat → Option α
  | .nil, _ => none
  | .node l k v r, n => match Nat.ble n k with
    | true => match Nat.beq n k with
      | true => some v
      | false => l.get n
    | false => r.get n

def BT.AllP {α : Type} (Q : Nat → α → Prop) : BT α → Prop
  | .nil => True
  | .node l k v r => l.AllP Q ∧ Q k v ∧ r.AllP Q

theorem BT.get_all {α : Type} {Q : Nat → α → Prop} {n : Nat} {v : α} : ∀ {t : BT α}, t.AllP Q → t.get n = some v → Q n v
  | .nil, _, h => by cases h
  | .node l k w r, ⟨h1, h2, h3⟩, h => by
    simp only [BT.get] at h
    split at h
    · split at h
      · rename_i hb
        injection h with h
        rw [Nat.eq_of_beq_eq_true hb, ← h]
        exact h2
      · exact BT.get_all h1 h
    · exact BT.get_all h3 h

def BT.all {α : Type} (q : Nat → α → Bool) : BT α → Bool
  | .nil => true
  | .node l k v r => l.all q && (q k v && r.all q)

theorem BT.all_ok {α : Type} {q : Nat → α → Bool} : ∀ {t : BT α}, t.all q = true → t.AllP fun k v => q k v = true
  | .nil, _ => trivial
  | .node l k v r, h => by
    simp only [BT.all, Bool.and_eq_true] at h
    exact ⟨BT.all_ok h.1, h.2.1, BT.all_ok h.2.2⟩

end Go.Eng
