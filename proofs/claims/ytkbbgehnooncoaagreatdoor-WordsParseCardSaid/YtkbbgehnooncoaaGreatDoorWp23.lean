/- A listed table of a package variable, as cells. -/
import Derived.Test.YtkbbgehnooncoaaGreatDoorWp22
import Derived.LaidLaws
import Derived.Stop.LaidErr
section
namespace Go.Eng
open Go Go.RowKit Go.ChangeShapes
set_option linter.unusedSectionVars false

theorem mapM_getL {α β : Type} (f : α → Option β) : ∀ (l : List α) (r : List β), l.mapM f = some r → ∀ (j : Nat) (a : α), l[j]? = some a → ∃ b, f a = some b ∧ r[j]? = some b
  | [], r, h, j, a, ha => by simp at ha
  | x :: l, r, h, j, a, ha => by
    rw [List.mapM_cons] at h
    cases hx : f x with
    | none => simp [hx] at h
    | some b =>
      cases hl : l.mapM f with
      | none => simp [hx, hl] at h
      | some r' =>
        simp [hx, hl] at h
        subst h
        cases j with
        | zero =>
          simp at ha
          subst ha
          exact ⟨b, hx, by simp⟩
        | succ j =>
          obtain ⟨b', q1, q2⟩ := mapM_getL f l r' hl j a (by simpa using ha)
          exact ⟨b', q1, by simpa using q2⟩

/-- cells of a listed array of numbers -/
theorem tab_of_laid {P : Program} {n : String} {g : Nat} {t e : TypeId} {N : Nat} {k : IntKind} {xs : List Int} {r : List (String × DataW Unit)} {W : World}
    (h : laidMet P ((n, .agg (xs.map fun x => .lit (.int k x))) :: r) W)
    (hg : P.globalNamed n = some g) (ht : (P.globals[g]?).map (·.type) = some t) (hu : P.underlying t = some (.array N e)) (he : P.underlying e = some (.int k)) (hc : P.cellsOf e = 1) (hct : P.cellsOf t = N) (hN : xs.length = N) :
    (∀ j x, xs[j]? = some x → W.cell? ⟨g, j, none⟩ = some (.int k x)) ∧ (W.shape? g).map (·.2) = some N := by
  obtain ⟨ps, ⟨g0, t0, cs0, f0, p0, q0, hg0, ht0, hv0, hd0, _, e0⟩, _, hrows⟩ := h
  obtain rfl := Option.some.inj (hg.symm.trans hg0)
  obtain rfl := Option.some.inj (ht.symm.trans ht0)
  refine ⟨fun j x hx => ?_, ?_⟩
  case refine_2 =>
    have hlen : cs0.size = N := by
      cases f0 with
      | zero => cases hd0
      | succ f0 =>
        unfold DataW.trod at hd0
        simp only [hu] at hd0
        split at hd0
        · rename_i hlen
          rw [← hct, ← hlen, Array.length_toList]
        · cases hd0
    unfold World.var? at hv0
    simp only [hg, Option.bind_some] at hv0
    unfold World.shape?
    split at hv0
    · rename_i cs t fz hq
      simp only [Option.some.injEq] at hv0
      rw [hq]
      simp [hv0, hlen]
    · cases hv0
  have hj : j < N := by rw [← hN]; exact (List.getElem?_eq_some_iff.1 hx).1
  rw [World.var?_cell hg hv0 j]
  cases f0 with
  | zero => cases hd0
  | succ f0 =>
    unfold DataW.trod at hd0
    simp only [hu] at hd0
    split at hd0
    · rename_i hlen
      cases hm : (List.range N).mapM (fun i => DataW.trod (fun _ => ()) P W 0 (fun _ => true) false f0 e ((cs0.toList.drop (i * P.cellsOf e)).take (P.cellsOf e))) with
      | none =>
        rw [hm] at hd0
        cases hd0
      | some ys =>
        rw [hm] at hd0
        simp only [Option.map_some, Option.some.injEq, Prod.mk.injEq, DataW.agg.injEq] at hd0
        obtain ⟨b, q1, q2⟩ := mapM_getL _ _ _ hm j j (by simp [hj])
        have q3 : (ys.map (·.1))[j]? = some b.1 := by rw [List.getElem?_map, q2]; rfl
        rw [hd0.1, List.getElem?_map, hx] at q3
        simp only [Option.map_some, Option.some.injEq] at q3
        rw [hc, Nat.mul_one] at q1
        have hjl : j < cs0.toList.length := by rw [hlen, hct]; exact hj
        obtain ⟨y, hy⟩ : ∃ y, (cs0.toList.drop j).take 1 = [y] ∧ cs0.toList[j]? = some y := ⟨cs0.toList[j], by rw [List.drop_eq_getElem_cons hjl]; rfl, List.getElem?_eq_getElem hjl⟩
        rw [hy.1] at q1
        cases f0 with
        | zero => cases q1
        | succ f0 =>
          unfold DataW.trod at q1
          simp only [he] at q1
          rw [← Array.getElem?_toList, hy.2]
          cases y <;> simp only at q1 <;> first | (cases q1; done) | skip
          split at q1
          · rename_i hk
            simp only [Option.some.injEq] at q1
            subst q1
            simp only [DataW.lit.injEq, Lit.int.injEq] at q3
            obtain ⟨_, rfl⟩ := q3
            rw [hk.1]
          · cases q1
    · cases hd0
/-- .. and back: the variable as the library's laws want it told -/
theorem tabIs_of {P : Program} {n : String} {g N : Nat} {k : IntKind} {xs : List Int} {W : World} (hg : P.globalNamed n = some g) (hN : xs.length = N)
    (h : ∀ j x, xs[j]? = some x → W.cell? ⟨g, j, none⟩ = some (.int k x)) (hs : (W.shape? g).map (·.2) = some N) : W.var? P n = some (xs.map fun z => Value.int k z).toArray := by
  unfold World.var?
  simp only [hg, Option.bind_some]
  unfold World.shape? at hs
  split at hs
  · rename_i c t fz hq
    simp only [Option.map_some, Option.some.injEq] at hs
    rw [hq]
    simp only [Option.some.injEq]
    apply Array.ext'
    apply List.ext_getElem?
    intro j
    by_cases hj : j < N
    · have hx : xs[j]? = some xs[j] := List.getElem?_eq_getElem (by omega)
      have q := h j _ hx
      simp only [World.cell?, hq] at q
      rw [Array.getElem?_toList, List.getElem?_map, hx]
      simpa using q
    · rw [List.getElem?_eq_none (by rw [Array.length_toList, hs]; omega), List.getElem?_eq_none (by simp; omega)]
  · cases hs
end Go.Eng
end
