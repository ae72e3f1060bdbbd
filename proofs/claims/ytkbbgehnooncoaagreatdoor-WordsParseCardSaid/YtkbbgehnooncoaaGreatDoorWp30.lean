/- Steps as lines: words.Keep and strings.Trim, as what the evaluator takes. -/
import Derived.Test.YtkbbgehnooncoaaGreatDoorWp20
import Derived.Test.YtkbbgehnooncoaaGreatDoorWp16
import Derived.Test.YtkbbgehnooncoaaGreatDoorWp27
section
namespace Go.Eng
open Go
variable [Inhabited Pkg]
set_option linter.unusedSectionVars false

/-- a list of truths, as rows -/
def encB (l : List Bool) : Row := l.map fun b => [.bool b]
theorem encB_len (l : List Bool) : (encB l).length = l.length := by simp [encB]
def boolsOf : Row → Option (List Bool)
  | [] => some []
  | [.bool b] :: r => (boolsOf r).map (b :: ·)
  | _ => none
theorem boolsOf_enc : ∀ l : List Bool, boolsOf (encB l) = some l
  | [] => rfl
  | b :: l => by
    have ih := boolsOf_enc l
    unfold encB at ih ⊢
    rw [List.map_cons, boolsOf, ih]
    rfl
theorem boolsOf_some : ∀ {xs : Row} {l : List Bool}, boolsOf xs = some l → xs = encB l
  | [], l, h => by
    unfold boolsOf at h
    injection h with h
    subst h
    rfl
  | x :: r, l, h => by
    unfold boolsOf at h
    split at h
    · injection h with h
      subst h
      rename_i e
      cases e
    · rename_i b r' e
      injection e with e1 e2
      subst e1 e2
      cases hr : boolsOf r with
      | none => rw [hr] at h; cases h
      | some l' =>
        rw [hr] at h
        injection h with h
        subst h
        rw [boolsOf_some hr]
        rfl
    · cases h
/-- words.Keep -/
noncomputable def sKeep : Spec := fun xs G => match xs with
  | [.dat (.list _ _ rows)] => match boolsOf rows with
    | some l => if l.length ≤ 1000000 then some (.dat (.str ⟨(keepW l).toArray⟩), G) else none
    | none => none
  | _ => none
theorem sKeep_ok : COk Go.Proofs.Tryz.prog 12 sKeep := by
  refine COk.belowV ⟨_, Go.Proofs.Tryz.func12, by kernel_rfl, by kernel_rfl⟩ (fun c xs G vs r G' hs _ hv => ?_)
  unfold sKeep at hs
  split at hs
  · rename_i k sz rows
    split at hs
    · rename_i l hl
      split at hs
      · rename_i hn
        simp only [Option.some.injEq, Prod.mk.injEq] at hs
        obtain ⟨rfl, rfl⟩ := hs
        obtain ⟨v, rfl, h0⟩ := args_one hv
        have he := boolsOf_some hl
        subst he
        refine ⟨rfl, rfl, fun _ _ _ => (by simp), .string ⟨(keepW l).toArray⟩, fun _ => .dat (.str _), ?_⟩
        cases l with
        | nil =>
          have hz : ∃ p cap, v = .slice p 0 cap := by
            cases h0 with
            | dat h0 =>
              cases h0 with
              | nil => exact ⟨_, _, rfl⟩
              | void => exact ⟨_, _, rfl⟩
              | list => exact ⟨_, _, rfl⟩
          obtain ⟨p, cap, rfl⟩ := hz
          exact (Go.Proofs.Tryz.keep_none p cap c.w).mono fun e w' q => ⟨q.1, q.2 ▸ RowKit.Below.refl _ _⟩
        | cons b l =>
          cases h0 with
          | dat h0 =>
            cases h0 with
            | @list k sz xs bk o cap vs hsz hcap hmax hlv hc hr hk hfu =>
              have h1 : sz = 1 := (hsz [.bool b] (by simp [encB])).symm
              subst h1
              have hcell : ∀ (j : Nat) x, (b :: l)[j]? = some x → c.w.cell? ⟨bk, o + j, none⟩ = some (.bool x) := by
                intro j x hj
                have hx : (encB (b :: l))[j]? = some [.bool x] := by
                  unfold encB
                  rw [List.getElem?_map, hj]
                  rfl
                have q1 := hc j [.bool x] 0 (.bool x) hx rfl
                have q2 := hr j [.bool x] 0 (.bool x) hx rfl
                rw [Nat.mul_one, Nat.add_zero] at q1
                rw [q1]
                generalize vs j 0 = z at q2
                cases q2
                rfl
              have hb : bk < c.w.heap.size := World.block_lt_of_cell? c.w ⟨bk, o + 0, none⟩ (hcell 0 b rfl)
              have := Go.Proofs.Tryz.keep_walk bk o cap (b :: l) c.w (by simp) hn hcell hb
              rw [encB_len]
              unfold keepW
              rw [if_neg (by simp)]
              exact this
      · cases hs
    · cases hs
  · cases hs
/-- strings.Trim -/
noncomputable def sTrim : Spec := fun xs G => match xs with
  | [.dat (.str s), .dat (.str t)] => if s.size ≤ 9223372036854775807 ∧ t.size < 4294967281 ∧ t.data.toList.all (fun b => decide (b.toNat < 128)) = true then some (.dat (.str ⟨(Go.Lib.trimS s.data.toList t.data.toList).toArray⟩), G) else none
  | _ => none
theorem sTrim_ok : COk Go.Proofs.Tryz.prog 32 sTrim := by
  refine COk.belowV ⟨_, Go.Proofs.Tryz.func32, by kernel_rfl, by kernel_rfl⟩ (fun c xs G vs r G' hs _ hv => ?_)
  unfold sTrim at hs
  split at hs
  · rename_i s t
    split at hs
    · rename_i hc
      simp only [Option.some.injEq, Prod.mk.injEq] at hs
      obtain ⟨rfl, rfl⟩ := hs
      obtain ⟨v, u, rfl, h0, h1⟩ := args_two hv
      rw [h0.str_inv, h1.str_inv]
      exact ⟨rfl, rfl, fun _ _ _ => (by simp), _, fun _ => .dat (.str _), Go.Proofs.Tryz.strings_Trim s t c.w hc.1 hc.2.1 (fun j b hb => of_decide_eq_true (List.all_eq_true.1 hc.2.2 b (List.mem_of_getElem? hb)))⟩
    · cases hs
  · cases hs
end Go.Eng
end
