/- strconv.Itoa at every number: the table of powers of ten out of what is laid. -/
import Derived.Test.YtkbbgehnooncoaaGreatDoorWp25
import Derived.Test.YtkbbgehnooncoaaGreatDoorWp23
import Derived.Test.YtkbbgehnooncoaaGreatDoorWp22
import Derived.Lib.ItoaNum
import Derived.Lib.LaidTab
import Derived.Lib.AppendIntMem
section
namespace Go.Eng
open Go
variable [Inhabited Pkg]
set_option linter.unusedSectionVars false

theorem tab_cells {w : World} {lv : Nat → Nat} {g : Nat} {cs : List D} (h : RD w lv (.list .any cs.length [cs]) (.slice (some ⟨g, 0, none⟩) 1 1)) :
    ∀ j d, cs[j]? = some d → ∃ v, w.cell? ⟨g, j, none⟩ = some v ∧ RD w lv d v := by
  intro j d e
  generalize hxs : [cs] = xs at h
  generalize hl : 1 = one at h
  cases h with
  | void => cases hxs
  | list vs hsz hcap hmax hlv hc hr hk hfu =>
    have h0 : xs[0]? = some cs := by rw [← hxs]; rfl
    have q1 := hc 0 _ j _ h0 e
    rw [show 0 + (0 * cs.length + j) = j by omega] at q1
    exact ⟨_, q1, hr 0 _ j _ h0 e⟩
theorem rd_table {w : World} {g : Nat} {k : IntKind} {xs : List Int} (hne : 0 < xs.length) (h : ∀ j x, xs[j]? = some x → w.cell? ⟨g, j, none⟩ = some (.int k x)) :
    RD w (Cx.base w).lv (.list .any (xs.map fun z => D.int k z).length [xs.map fun z => D.int k z]) (.slice (some ⟨g, 0, none⟩) 1 1) := by
  have hat : ∀ j d, (xs.map fun z => D.int k z)[j]? = some d → ∃ n : Int, d = .int k n ∧ w.cell? ⟨g, j, none⟩ = some (.int k n) := by
    intro j d hd
    rw [List.getElem?_map] at hd
    cases hn : xs[j]? with
    | none => rw [hn] at hd; cases hd
    | some n =>
      rw [hn] at hd
      simp only [Option.map_some, Option.some.injEq] at hd
      exact ⟨n, hd.symm, h j n hn⟩
  refine RD.list (fun _ j => (w.cell? ⟨g, j, none⟩).getD default) (fun x hx => by rw [List.mem_singleton.1 hx]) (Nat.le_refl _) (by decide) (fun _ => ?_) (fun i x j d hx hd => ?_) (fun i x j d hx hd => ?_) (by decide) (fun h => by cases h)
  · obtain ⟨n, _, hn⟩ := hat (xs.length - 1) _ (List.getElem?_eq_getElem (by rw [List.length_map]; omega))
    have := lv_base hn
    simp only [List.length_singleton, List.length_map]
    omega
  · cases i with
    | zero =>
      simp only [List.getElem?_cons_zero, Option.some.injEq] at hx
      subst hx
      obtain ⟨n, _, hn⟩ := hat j d hd
      rw [show 0 + (0 * (xs.map fun z => D.int k z).length + j) = j by omega, hn]
      rfl
    | succ i => simp at hx
  · cases i with
    | zero =>
      simp only [List.getElem?_cons_zero, Option.some.injEq] at hx
      subst hx
      obtain ⟨n, rfl, hn⟩ := hat j d hd
      rw [hn]
      exact .int _ _
    | succ i => simp at hx
theorem tabIs_laid {P : Program} {w : World} {lv : Nat → Nat} {n : String} {g : Nat} {k : IntKind} {xs : List Int} (h : Laid w lv) (hg : P.globalNamed n = some g) (hp : pkgGl g = some (xs.map fun z => .int k z)) : Go.Lib.TabIs P w n k xs := by
  refine tabIs_of (N := xs.length) hg rfl (fun j x hx => ?_) (by have := h.sz g _ hp; rw [List.length_map] at this; exact this)
  obtain ⟨v, q1, q2⟩ := tab_cells (h.gl g _ hp) j (.int k x) (by rw [List.getElem?_map, hx]; rfl)
  cases q2
  exact q1
/-- strconv.Itoa, at every int -/
noncomputable def sItoaA : Spec := fun xs G => match xs with
  | [.dat (.int .i64 n)] => if -9223372036854775808 ≤ n ∧ n ≤ 9223372036854775807 then some (.dat (.str ⟨(Go.Lib.itoa n).toArray⟩), G) else none
  | _ => none
theorem sItoaA_ok {P : Program} {f : FuncId} (hf : Enters P f) {g : Nat} (hp : pkgGl g = some (Go.Lib.pow10Tab.map fun z => .int .u64 z)) (hg : P.globalNamed "internal/strconv.uint64pow10" = some g)
    (h : ∀ (n : Int), -9223372036854775808 ≤ n → n ≤ 9223372036854775807 → ∀ (w : World), Go.Lib.TabIs P w "internal/strconv.uint64pow10" .u64 Go.Lib.pow10Tab → Calls P f #[.int .i64 n] w fun e w' => e = .returned (.string ⟨(Go.Lib.itoa n).toArray⟩) ∧ ∃ k os, w' = Go.Sort.grow (w.drewN k) os) (hlt : f < yB := by decide) : COk P f sItoaA := by
  refine COk.belowV hf (fun c xs G vs r G' hs hm hv => ?_) hlt
  unfold sItoaA at hs
  split at hs
  · rename_i n
    split at hs
    · rename_i hc
      simp only [Option.some.injEq, Prod.mk.injEq] at hs
      obtain ⟨rfl, rfl⟩ := hs
      obtain ⟨v, rfl, h0⟩ := args_one hv
      rw [h0.int_inv]
      refine ⟨rfl, rfl, fun _ _ _ => (by simp), _, fun _ => .dat (.str _), (h n hc.1 hc.2 c.w (tabIs_laid hm.wf.pk hg hp)).mono fun e w' q => ⟨q.1, ?_⟩⟩
      obtain ⟨k, os, q⟩ := q.2
      rw [q]
      exact Go.Lib.below_grow _ _ (Nat.le_refl _) _ _
    · cases hs
  · cases hs
end Go.Eng
end
