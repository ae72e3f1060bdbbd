/- The operations that neither read nor turn memory, one by one. -/
import Derived.Test.YtkconbpjimjbnaaEngH
namespace Go.Eng
open Go Go.RowKit

/-- what a test of Go's gives in both forms -/
theorem eqGuard_ok {P : Program} {w : World} (op : BinOp) (t : TypeId) (x y : Operand) (v u : Value) (h1 : v = .nilIface → u = .nilIface → (isConst x || isConst y) = true)
    (h2 : ∀ a b, v = .agg a → u = .agg b → P.eqGuardType P.depth t = false) : (eqGuard op t x y v u).run P w = .ok () w := by
  cases op <;> first
    | rfl
    | (unfold eqGuard
       simp only [Bool.not_true, Bool.false_eq_true, if_false]
       split
       · have := h1 rfl rfl
         cases x <;> cases y <;> simp_all [isConst]
       · have := h2 _ _ rfl rfl
         simp [run_program, this]
       · rfl)

theorem kind_agg {P : Program} {T : Tab} (hT : TabOk P T) {t : TypeId} {k : TK} (h : kindT T t = some k) : ∃ ti i ds z, T t = some ti ∧ ti.k = k ∧ TyFacts P t ti i ds z := by
  obtain ⟨ti, hti, hk⟩ := kindT_some h
  obtain ⟨i, ds, z, f⟩ := hT.facts hti
  exact ⟨ti, i, ds, z, hti, hk, f⟩

theorem eqv_cmp {T : Tab} {n : Nat} {t : TypeId} {ti : TI} {xs ys : List AV} {b : Bool} (h : eqv T (n + 1) t xs ys = some b) (ht : T t = some ti) : ti.cmp = true := by
  simp only [eqv, ht] at h
  split at h
  · assumption
  · cases h

theorem guarded {P : Program} {c : Cx} {op : BinOp} {t : TypeId} {x y : Operand} {v u : Value} {res : AV} (g : (eqGuard op t x y v u).run P c.w = .ok () c.w) (h : RunsTo P c (binOp op t v u) res) :
    RunsTo P c (do eqGuard op t x y v u; binOp op t v u) res := by
  obtain ⟨r, h1, h2⟩ := h
  exact ⟨r, by simp only [Sem.run_bind, g, Result.andThen_ok]; exact h1, h2⟩

theorem bin_ok {P : Program} {T : Tab} {c : Cx} (hT : TabOk P T) {op : BinOp} {t : TypeId} {x y : Operand} {X Y res : AV} {v u : Value} (h : bin T op t X Y (isConst x || isConst y) = some res)
    (hx : VL c X v) (hy : VL c Y u) : RunsTo P c (do eqGuard op t x y v u; binOp op t v u) res := by
  unfold bin at h
  split at h
  · split at h
    · cases hx with | dat hx => cases hx with | int =>
      cases hy with | dat hy => cases hy with | int =>
      exact guarded (eqGuard_ok _ _ _ _ _ _ (fun e => by cases e) (fun _ _ e => by cases e)) (int_ok h)
    · cases h
  · split at h
    · cases hx with | dat hx => cases hx with | str =>
      cases hy with | dat hy => cases hy with | str =>
      exact guarded (eqGuard_ok _ _ _ _ _ _ (fun e => by cases e) (fun _ _ e => by cases e)) (str_ok h)
    · cases h
  · split at h
    · cases hx with | dat hx => cases hx with | bool =>
      cases hy with | dat hy => cases hy with | bool =>
      refine guarded (eqGuard_ok _ _ _ _ _ _ (fun e => by cases e) (fun _ _ e => by cases e)) ?_
      split at h
      · rename_i hk
        have hu := bool_kind hT hk
        split at h
        · injection h with h; subst h
          exact ⟨_, run_eql_bool _ t _ _ hu, .dat (.bool _)⟩
        · injection h with h; subst h
          refine ⟨_, ?_, .dat (.bool _)⟩
          simp only [binOp, Sem.run_bind, run_equal_bool _ t _ _ hu]
          rfl
        · cases h
      · cases h
    · cases h
  · split at h
    · rename_i xs _ ys
      split at h
      · rename_i k hk
        split at h
        · rename_i hagg
          split at h
          · rename_i b hb
            obtain ⟨ti, i, ds, z, hti, rfl, f⟩ := kind_agg hT hk
            cases hx with
            | agg hl1 h1 =>
              rename_i vs
              cases hy with
              | agg hl2 h2 =>
                rename_i us
                obtain ⟨_, r⟩ := eqv_ok (c := c) hT 6 t ti xs ys vs.toList us.toList b 9994 c.w hti hb (VL.all2 hl1 h1) (VL.all2 hl2 h2)
                simp only [hagg, valOf, if_true, Array.toArray_toList] at r
                have hcmp : ti.cmp = true := eqv_cmp (n := 5) hb hti
                obtain ⟨c1, c2, c3⟩ := f.cmp hcmp
                refine guarded (eqGuard_ok _ _ _ _ _ _ (fun e => by cases e) (fun _ _ _ _ => c2)) ?_
                split at h
                · injection h with h; subst h
                  refine ⟨_, ?_, .dat (.bool _)⟩
                  rw [run_eql_struct, r]; rfl
                · injection h with h; subst h
                  refine ⟨_, ?_, .dat (.bool _)⟩
                  rw [run_neq_struct, r]; rfl
                · cases h
          · cases h
        · cases h
      · cases h
    · cases h
  · rename_i n1 n2 n3 n4
    split at h
    · rename_i k hk
      split at h
      · rename_i hlit
        split at h
        · rename_i b hb
          have he := nilEq_ok hT hk hb hx hy c.w
          -- the values are no numbers, no strings
          have hsh : ∃ k1 a, NilShape k1 a v := by
            unfold nilEq at hb
            split at hb
            · rename_i k1 a h1
              exact ⟨k1, a, isNil_shape h1 hx⟩
            · cases hb
          obtain ⟨k1, q, s⟩ := hsh
          refine guarded (eqGuard_ok _ _ _ _ _ _ (fun _ _ => hlit) (fun a b e _ => ?_)) ?_
          · subst e
            rcases k1 with _ | _ | _ | _ | k1 <;> cases q <;> simp [NilShape] at s
          · have hbin : ∀ op, (op = .eql ∨ op = .neq) → (binOp op t v u).run P c.w = .ok (.bool (if op = .eql then b else !b)) c.w := by
              intro op hop
              rcases hop with rfl | rfl <;>
              (rcases k1 with _ | _ | _ | _ | k1 <;> cases q <;> simp only [NilShape] at s <;>
                first
                  | exact s.elim
                  | (subst s; simp [binOp, he])
                  | (obtain ⟨_, rfl⟩ := s; simp [binOp, he])
                  | (obtain ⟨_, _, rfl⟩ := s; simp [binOp, he])
                  | (obtain ⟨_, _, _, rfl⟩ := s; simp [binOp, he]))
            split at h
            · injection h with h; subst h
              exact ⟨_, hbin .eql (.inl rfl), .dat (.bool _)⟩
            · injection h with h; subst h
              exact ⟨_, hbin .neq (.inr rfl), .dat (.bool _)⟩
            · cases h
        · cases h
      · cases h
    · cases h

theorem un_ok {P : Program} {c : Cx} {op : UnOp} {X res : AV} {v : Value} (h : un op X = some res) (hx : VL c X v) : RunsTo P c (Op.unary op v) res := by
  unfold un at h
  split at h
  · cases hx with | dat hx => cases hx with | int =>
    split at h
    · injection h with h; subst h; exact ⟨_, rfl, .dat (.int _ _)⟩
    · injection h with h; subst h; exact ⟨_, rfl, .dat (.int _ _)⟩
    · cases h
  · cases hx with | dat hx => cases hx with | bool =>
    split at h
    · injection h with h; subst h; exact ⟨_, rfl, .dat (.bool _)⟩
    · cases h
  · cases h

theorem nilCheck_ok {c : Cx} {X res : AV} {v : Value} (h : nilCheck X = some res) (hx : VL c X v) : res = X ∧ ((∃ a, v = .pointer (some a)) ∨ (∃ f y, v = .func (.func f) #[] y)) := by
  unfold nilCheck at h
  split at h
  all_goals first
    | (cases h; done)
    | (injection h with h; subst h; refine ⟨rfl, ?_⟩; cases hx <;> first
        | exact .inl ⟨_, rfl⟩
        | exact .inr ⟨_, _, rfl⟩)

end Go.Eng
