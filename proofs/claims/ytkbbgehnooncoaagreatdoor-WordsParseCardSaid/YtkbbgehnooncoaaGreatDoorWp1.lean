/- Scopes in which the run jumps to several labels, any number of times. -/
import Derived.Scope
section
namespace Go.Eng
open Go

/-- by a goto: what holds at its label; else Q -/
def exitJ (J : Nat → Act → World → Prop) (Q : Exit → Act → World → Prop) : Exit → Act → World → Prop
  | .goto l, a, w => J l a w
  | e, a, w => Q e a w

theorem wp_scope_any {P : Program} {c : Code} {Q : Exit → Act → World → Prop} {a : Act} {w : World} (J : Nat → Nat → Act → World → Prop) (N : Nat) (first : c.wp P (exitJ (J N) Q) a w)
    (pass : ∀ n l a w, J n l a w → ∃ rest m, n = m + 1 ∧ findLabel c l = some rest ∧ rest.wp P (exitJ (J m) Q) a w) : (Code.scope c).wp P Q a w := by
  intro b k cs
  have land : ∀ n l a w, J n l a w → ∃ rest e a' w', gotoIn l (.inScope c :: k) = some (.code rest :: .inScope c :: k) ∧ Q e a' w' ∧ Arrives P (lone (b.at a (.code rest :: .inScope c :: k)) cs w) b k cs e a' w' := by
    intro n
    induction n with
    | zero =>
      intro l a w h
      obtain ⟨_, m, h0, _⟩ := pass 0 l a w h
      cases h0
    | succ n ih =>
      intro l a w h
      obtain ⟨rest, m, h0, hf, hp⟩ := pass _ l a w h
      obtain rfl : n = m := Nat.succ.inj h0
      have hg : gotoIn l (.inScope c :: k) = some (.code rest :: .inScope c :: k) := by simp [gotoIn, hf]
      obtain ⟨e, a1, w1, hq, harr⟩ := hp b (.inScope c :: k) cs
      cases e with
      | normal => exact ⟨rest, .normal, a1, w1, hg, hq, Steps.trans harr (.one step_inScope)⟩
      | exit id => exact ⟨rest, .exit id, a1, w1, hg, hq, fun k' hk => harr k' (by simp [exitTo, hk])⟩
      | goto l' =>
        obtain ⟨r2, e2, a2, w2, hg2, hq2, harr2⟩ := ih l' a1 w1 hq
        exact ⟨rest, e2, a2, w2, hg, hq2, .of_steps (harr _ hg2) harr2⟩
      | ret => exact ⟨rest, .ret, a1, w1, hg, hq, harr⟩
      | panic ch => exact ⟨rest, .panic ch, a1, w1, hg, hq, harr⟩
      | outgrown => exact ⟨rest, .outgrown, a1, w1, hg, hq, harr⟩
  obtain ⟨e, a1, w1, hq, harr⟩ := first b (.inScope c :: k) cs
  cases e with
  | normal => exact ⟨.normal, a1, w1, hq, .head step_scope (Steps.trans harr (.one step_inScope))⟩
  | exit id => exact ⟨.exit id, a1, w1, hq, fun k' hk => .head step_scope (harr k' (by simp [exitTo, hk]))⟩
  | goto l' =>
    obtain ⟨r2, e2, a2, w2, hg2, hq2, harr2⟩ := land N l' a1 w1 hq
    exact ⟨e2, a2, w2, hq2, .of_steps (.head step_scope (harr _ hg2)) harr2⟩
  | ret => exact ⟨.ret, a1, w1, hq, .of_steps (.one step_scope) harr⟩
  | panic ch => exact ⟨.panic ch, a1, w1, hq, .of_steps (.one step_scope) harr⟩
  | outgrown => exact ⟨.outgrown, a1, w1, hq, .of_steps (.one step_scope) harr⟩
end Go.Eng
end
