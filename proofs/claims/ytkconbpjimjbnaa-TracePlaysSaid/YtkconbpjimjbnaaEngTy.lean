/- Typed data, opened. -/
import Derived.Test.YtkconbpjimjbnaaEngZf
namespace Go.Eng
open Go

theorem Ty.bool {P : Program} {n : Nat} {t : TypeId} {ds : List D} (hu : P.underlying t = some .bool) (h : Ty P (n + 1) t ds) : ∃ b, ds = [.bool b] := by
  unfold Ty at h
  rw [hu] at h
  exact h

theorem Ty.int {P : Program} {n : Nat} {t : TypeId} {k : IntKind} {ds : List D} (hu : P.underlying t = some (.int k)) (h : Ty P (n + 1) t ds) : ∃ z, ds = [.int k z] ∧ (Lit.int k z).wf = true := by
  unfold Ty at h
  rw [hu] at h
  exact h

theorem Ty.str {P : Program} {n : Nat} {t : TypeId} {ds : List D} (hu : P.underlying t = some .string) (h : Ty P (n + 1) t ds) : ∃ s, ds = [.str s] ∧ s.size ≤ maxLen := by
  unfold Ty at h
  rw [hu] at h
  exact h

theorem Ty.slice {P : Program} {n : Nat} {t e : TypeId} {ds : List D} (hu : P.underlying t = some (.slice e)) (h : Ty P (n + 1) t ds) :
    ∃ k xs, ds = [.list k (P.cellsOf e) xs] ∧ (∀ x ∈ xs, Ty P n e x) ∧ xs.length ≤ maxLen ∧ (k = .nil → xs = []) := by
  unfold Ty at h
  rw [hu] at h
  exact h

theorem Ty.struct {P : Program} {n : Nat} {t : TypeId} {fs : Array Field} {ds : List D} (hu : P.underlying t = some (.struct fs)) (h : Ty P (n + 1) t ds) : TyFs (Ty P n) fs.toList ds := by
  unfold Ty at h
  rw [hu] at h
  exact h

/-- numbers as a row -/
def encI (l : List Int) : Row := l.map fun z => [.int .i64 z]

theorem encI_of : ∀ (xs : Row), (∀ x ∈ xs, ∃ z, x = [D.int .i64 z] ∧ (Lit.int .i64 z).wf = true) → ∃ us : List Int, xs = encI us ∧ us.length = xs.length
  | [], _ => ⟨[], rfl, rfl⟩
  | x :: xs, h => by
    obtain ⟨z, hz, _⟩ := h x (by simp)
    obtain ⟨us, h1, h2⟩ := encI_of xs fun y hy => h y (by simp [hy])
    exact ⟨z :: us, by rw [hz, h1]; rfl, by simp [h2]⟩

/-- a list of int, as it reads -/
theorem Ty.ints {P : Program} {n : Nat} {t e : TypeId} {ds : List D} (hu : P.underlying t = some (.slice e)) (he : P.underlying e = some (.int .i64)) (hc : P.cellsOf e = 1) (h : Ty P (n + 2) t ds) :
    ∃ k us, ds = [.list k 1 (encI us)] ∧ us.length ≤ maxLen := by
  obtain ⟨k, xs, h1, h2, h3, _⟩ := Ty.slice hu h
  obtain ⟨us, h4, h5⟩ := encI_of xs fun x hx => Ty.int he (h2 x hx)
  refine ⟨k, us, ?_, by omega⟩
  rw [h1, hc, h4]

end Go.Eng
