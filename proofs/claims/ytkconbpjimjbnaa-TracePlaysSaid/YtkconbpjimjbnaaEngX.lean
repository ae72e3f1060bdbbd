/- Each operation, as the machine carries it out. -/
import Derived.Test.YtkconbpjimjbnaaEngW
namespace Go.Eng
open Go Go.RowKit

theorem opval_ok {c : Cx} {ts : List AV} {a : Act} (h : All2 (VL c) ts a.tmps.toList) (o : Operand) : VL c (opval ts o) (a.eval o) := by
  unfold opval
  split
  · rename_i t
    by_cases ht : t < ts.length
    · obtain ⟨v, q1, q2⟩ := h.get t ts[t] (by simp [ht])
      rw [Array.getElem?_toList] at q1
      have e1 : ts.getD t .dead = ts[t] := by simp [List.getD, ht]
      have e2 : a.eval (.tmp t) = v := by simp [Act.eval, Array.getD_eq_getD_getElem?, q1]
      rw [e1, e2]; exact q2
    · have e1 : ts.getD t .dead = .dead := by simp [List.getD, List.getElem?_eq_none (Nat.le_of_not_lt ht)]
      rw [e1]; exact .dead _
  · rename_i v
    unfold constV
    split
    · exact .dat (.bool _)
    · exact .dat (.int _ _)
    · exact .dat (.str _)
    · exact .nilp
    · exact .dat (.nil _)
    · exact .nili
    · exact .nilfn
    · exact .dead _
  · exact .fn (by simp) (by simp)
  · exact .dead _

theorem all2_map {α : Type} {c : Cx} {f : α → AV} {g : α → Value} : ∀ (l : List α), (∀ x ∈ l, VL c (f x) (g x)) → All2 (VL c) (l.map f) (l.map g)
  | [], _ => trivial
  | x :: r, h => ⟨h x (by simp), all2_map r fun y hy => h y (by simp [hy])⟩

theorem all2_mapP {c : Cx} {f : Operand → AV} {g : Operand → Value} (h : ∀ x, VL c (f x) (g x)) : ∀ (l : List (Nat × Operand)),
    All2 (fun (p : Nat × AV) (q : Nat × Value) => p.1 = q.1 ∧ VL c p.2 q.2) (l.map fun p => (p.1, f p.2)) (l.map fun p => (p.1, g p.2))
  | [] => trivial
  | x :: r => ⟨⟨rfl, h x.2⟩, all2_mapP h r⟩

/-- what an operation comes to -/
def OpOk (P : Program) (o : Oper) (a : Act) (c : Cx) (m' : Mem) (res : AV) : Prop :=
  ∀ (next : Act → World → Prop) (Q : Exit → Act → World → Prop), (∀ c' val, Ext c c' → MemOk c' m' → VL c' res val → next (a.put o.dst val) c'.w) → o.wp P a c.w next Q

theorem OpOk.of_does {P : Program} {o : Oper} {a : Act} {c : Cx} {m' : Mem} {res : AV} {s : Sem Value} (he : execOp a.eval o = (do pure (.value (← s)))) (h : Does P c s m' res) : OpOk P o a c m' res := by
  intro next Q hn
  obtain ⟨c', v, h1, h2, h3, h4⟩ := h
  simp only [Oper.wp, he, Sem.run_bind, h1, Result.andThen_ok, Sem.run_pure, Oper.upon_value]
  exact hn c' v h2 h3 h4

theorem OpOk.of_runs {P : Program} {o : Oper} {a : Act} {c : Cx} {m : Mem} {res : AV} {s : Sem Value} (he : execOp a.eval o = (do pure (.value (← s)))) (hm : MemOk c m) (h : RunsTo P c s res) : OpOk P o a c m res :=
  .of_does he (h.does hm)

theorem OpOk.of_val {P : Program} {o : Oper} {a : Act} {c c' : Cx} {m' : Mem} {res : AV} {v : Value} (he : execOp a.eval o = pure (.value v)) (g : Ghost c c') (hm : MemOk c' m') (h : VL c' res v) : OpOk P o a c m' res := by
  intro next Q hn
  simp only [Oper.wp, he, Sem.run_pure, Oper.upon_value]
  rw [← g.w]
  exact hn c' v g.ext hm h

theorem map_some {α β : Type} {o : Option α} {f : α → β} {b : β} (h : o.map f = some b) : ∃ a, o = some a ∧ f a = b := by
  cases o with
  | none => cases h
  | some a => exact ⟨a, rfl, by simpa using h⟩

theorem map_pair {α : Type} {o : Option α} {m m' : Mem} {b : α} (h : o.map (·, m) = some (b, m')) : o = some b ∧ m' = m := by
  cases o with
  | none => cases h
  | some a =>
    simp only [Option.map_some, Option.some.injEq, Prod.mk.injEq] at h
    exact ⟨by rw [h.1], h.2.symm⟩

theorem optVL {c : Cx} {f : Operand → AV} {g : Operand → Value} (h : ∀ x, VL c (f x) (g x)) (o : Option Operand) : OptVL c (o.map f) (o.map g) := by
  cases o with
  | none => exact trivial
  | some x => exact h x

theorem toList_one {α : Type} {xs : Array α} {x : α} (h : xs.toList = [x]) : xs = #[x] := Array.ext' h
theorem toList_two {α : Type} {xs : Array α} {x y : α} (h : xs.toList = [x, y]) : xs = #[x, y] := Array.ext' h

theorem call_ok {P : Program} {T : Tab} {orc : Orc} {c : Cx} {m m' : Mem} (hT : TabOk P T) (hO : ∀ f, COk P f (orc f)) (hm : MemOk c m) {o : Oper} {a : Act} {ts : List AV} (ha : All2 (VL c) ts a.tmps.toList) {fresh : Nat} {res : AV} {cl : Call}
    (ho : o.op = .call cl) (hf : lays o = true → m.L[fresh]? = some none) (h : call T orc m fresh (opval ts) cl = some (res, m')) : OpOk P o a c m' res := by
  have hv := opval_ok ha
  unfold call at h
  split at h
  · rename_i f hcl
    split at h
    · rename_i g caps hfv
      have hfr : m.L[fresh]? = some none := hf (by simp [lays, ho, hcl])
      have hfun := hv f
      rw [hfv] at hfun
      generalize hev : a.eval f = fv at hfun
      cases hfun with
      | @fn _ _ vs hl hh =>
        have hall : All2 (VL c) (cl.args.toList.map (opval ts) ++ caps) (cl.args.map a.eval ++ vs).toList := by
          rw [Array.toList_append, Array.toList_map]
          exact (all2_map _ fun x _ => hv x).append (VL.all2 hl hh)
        obtain ⟨⟨fn, e1, e2, e3⟩, hcalls⟩ := callF_ok hO hm hfr h hall
        intro next Q hn
        have hrun : (execOp a.eval o).run P c.w = .ok (.enter g (cl.args.map a.eval ++ vs)) c.w := by
          simp only [execOp, ho, resolve, hcl, hev, Deferred.ofValue, Sem.run_bind, Sem.run_pure, Result.andThen_ok, invoke, callFunc, run_program, e1, e2, e3, Bool.false_eq_true, if_false]
          simp
        simp only [Oper.wp, hrun, Oper.upon_enter]
        refine hcalls.mono fun e w' he => ?_
        cases e with
        | returned v =>
          obtain ⟨c', rfl, x, hm', hv'⟩ := he
          exact hn c' v x hm' hv'
        | panicked ch => exact he.elim
        | outgrown => exact he.elim
    · cases h
  · rename_i b hcl
    have hex : ∀ s, builtin b cl.argTypes o.type (cl.args.map fun | .const _ => true | _ => false) (cl.args.map a.eval) = (do pure (.value (← s))) → execOp a.eval o = (do pure (.value (← s))) := by
      intro s hs
      rw [← hs]
      simp only [execOp, ho, resolve, hcl]
      rfl
    split at h
    · split at h
      · rename_i x t h1 h2
        obtain ⟨h', rfl⟩ := map_pair h
        have := lenOf_ok (ty := o.type) hT h' (hv x)
        refine .of_runs (hex _ ?_) hm this
        rw [toList_one h1, toList_one h2]
        have hmap : Array.map a.eval #[x] = #[a.eval x] := by simp
        rw [hmap]
        rfl
      · cases h
    · split at h
      · rename_i x y t t2 h1 h2
        have := append_ok (ty := o.type) hT hm (hf (by simp [lays, ho, hcl])) h (hv x) (hv y)
        refine .of_does (hex _ ?_) this
        rw [toList_two h1, toList_two h2]
        have hmap : Array.map a.eval #[x, y] = #[a.eval x, a.eval y] := by simp
        rw [hmap]
        rfl
      · cases h
    · obtain ⟨h', rfl⟩ := map_pair h
      have := minmax_ok (P := P) (ts := cl.argTypes) (ty := o.type) true h' (all2_map (g := a.eval) _ fun x _ => hv x)
      refine .of_runs (hex _ ?_) hm this
      simp only [builtin, if_true]
      rw [← Array.toList_map, Array.toArray_toList]
    · obtain ⟨h', rfl⟩ := map_pair h
      have := minmax_ok (P := P) (ts := cl.argTypes) (ty := o.type) false h' (all2_map (g := a.eval) _ fun x _ => hv x)
      refine .of_runs (hex _ ?_) hm this
      simp only [builtin, if_false, Bool.false_eq_true]
      rw [← Array.toList_map, Array.toArray_toList]
    · cases h
  · cases h

theorem sem_ok {P : Program} {T : Tab} {orc : Orc} {c : Cx} {m m' : Mem} (hT : TabOk P T) (hO : ∀ f, COk P f (orc f)) (hm : MemOk c m) {o : Oper} {a : Act} {ts : List AV} (ha : All2 (VL c) ts a.tmps.toList) {fresh : Nat} {res : AV}
    (hf : lays o = true → m.L[fresh]? = some none) (h : sem T orc o fresh (opval ts) m = some (res, m')) : OpOk P o a c m' res := by
  have hv := opval_ok ha
  unfold sem at h
  split at h
  · rename_i x ho
    simp only [Option.some.injEq, Prod.mk.injEq] at h
    obtain ⟨rfl, rfl⟩ := h
    exact .of_val (by simp only [execOp, ho]) (.refl _) hm (hv x)
  · rename_i x ho
    obtain ⟨c', g, k, r⟩ := keep_ok h hm (hv x)
    exact .of_val (by simp only [execOp, ho]) g k r
  · rename_i x y z ho
    obtain ⟨h', rfl⟩ := map_pair h
    obtain ⟨b, h1, h2⟩ := pick_ok (P := P) h' (hv x) (hv y) (hv z)
    intro next Q hn
    have hrun : (execOp a.eval o).run P c.w = .ok (.value (if b then a.eval y else a.eval z)) c.w := by
      simp only [execOp, ho, h1, asBool, Sem.run_bind, Sem.run_pure, Result.andThen_ok]
    simp only [Oper.wp, hrun, Oper.upon_value]
    exact hn c _ (.refl _) hm h2
  · rename_i t ho
    exact .of_does (by simp only [execOp, ho]) (alloc_ok hT hm (hf (by simp [lays, ho])) h)
  · rename_i t x ho
    exact .of_does (s := Instr.box t (a.eval x)) (by simp only [execOp, ho]) (box_ok hm (hf (by simp [lays, ho])) h (hv x))
  · rename_i t ps ho
    obtain ⟨h', rfl⟩ := map_pair h
    refine .of_runs (by simp only [execOp, ho]) hm (?_ : RunsTo P c (Instr.build t (ps.map fun p => (p.1, a.eval p.2))) res)
    have := build_ok hT h' (all2_mapP (g := a.eval) hv ps.toList)
    rw [← Array.toList_map, Array.toArray_toList] at this
    exact this
  · rename_i t n ps ho
    refine .of_does (by simp only [execOp, ho]) (?_ : Does P c (Instr.buildSlice t n (ps.map fun p => (p.1, a.eval p.2))) m' res)
    have := buildSlice_ok hT hm (hf (by simp [lays, ho])) h (all2_mapP (g := a.eval) hv ps.toList)
    rw [← Array.toList_map, Array.toArray_toList] at this
    exact this
  · rename_i t x ho
    obtain ⟨h', rfl⟩ := map_pair h
    exact .of_runs (by simp only [execOp, ho]) hm (load_ok hT hm h' (hv x))
  · rename_i t x y ho
    obtain ⟨m1, h1, h2⟩ := map_some h
    simp only [Prod.mk.injEq] at h2
    obtain ⟨rfl, rfl⟩ := h2
    obtain ⟨c', q1, q2, q3⟩ := store_ok (P := P) hT hm h1 (hv x) (hv y)
    intro next Q hn
    have hrun : (execOp a.eval o).run P c.w = .ok .skip c'.w := by
      simp only [execOp, ho, Sem.run_bind, q1, Result.andThen_ok, Sem.run_pure]
    simp only [Oper.wp, hrun, Oper.upon_skip]
    exact hn c' _ q2 q3 .undef
  · rename_i x ho
    obtain ⟨h', rfl⟩ := map_pair h
    obtain ⟨rfl, h2⟩ := nilCheck_ok h' (hv x)
    have he : execOp a.eval o = pure (.value (a.eval x)) := by
      rcases h2 with ⟨ad, h2⟩ | ⟨f, y, h2⟩ <;> simp only [execOp, ho, h2]
    exact .of_val he (.refl _) hm (hv x)
  · rename_i op t x y cc ho
    obtain ⟨h', rfl⟩ := map_pair h
    exact .of_runs (by simp only [execOp, ho]) hm (bin_ok hT h' (hv x) (hv y))
  · rename_i op t x ho
    obtain ⟨h', rfl⟩ := map_pair h
    exact .of_runs (by simp only [execOp, ho]) hm (un_ok h' (hv x))
  · rename_i s d x ho
    exact .of_does (by simp only [execOp, ho]) (convert_ok hT hm (hf (by simp [lays, ho])) h (hv x))
  · rename_i f first caps ho
    split at h
    · rename_i hcond
      simp only [Option.some.injEq, Prod.mk.injEq] at h
      obtain ⟨rfl, rfl⟩ := h
      have hfirst : first = #[] := by simpa using hcond.1
      refine .of_runs (by simp only [execOp, ho]) hm (?_ : RunsTo P c (Instr.makeFunc (.func f) (first.map a.eval) (caps.map a.eval)) _)
      refine ⟨_, rfl, ?_⟩
      subst hfirst
      have := all2_map (c := c) (f := opval ts) (g := a.eval) caps.toList fun x _ => hv x
      obtain ⟨z1, z2⟩ := VL.all2' (vs := (caps.map a.eval)) (by rw [Array.toList_map]; exact this)
      have hz : Array.map a.eval #[] = #[] := by simp
      rw [hz]
      exact .fn z1 z2
    · cases h
  · rename_i t x y ho
    exact .of_does (by simp only [execOp, ho]) (makeSlice_ok hT hm (hf (by simp [lays, ho])) h (hv x) (hv y))
  · rename_i t x lo hi mx ho
    obtain ⟨h', rfl⟩ := map_pair h
    exact .of_runs (by simp only [execOp, ho]) hm (slice_ok hT h' (hv x) (optVL hv _) (optVL hv _) (optVL hv _))
  · rename_i t x f ho
    obtain ⟨h', rfl⟩ := map_pair h
    exact .of_runs (by simp only [execOp, ho]) hm (fieldAddr_ok hT h' (hv x))
  · rename_i t x f ho
    obtain ⟨h', rfl⟩ := map_pair h
    exact .of_runs (by simp only [execOp, ho]) hm (field_ok hT h' (hv x))
  · rename_i t x y ho
    obtain ⟨h', rfl⟩ := map_pair h
    exact .of_runs (by simp only [execOp, ho]) hm (indexAddr_ok hT h' (hv x) (hv y))
  · rename_i t x y ho
    obtain ⟨h', rfl⟩ := map_pair h
    exact .of_runs (by simp only [execOp, ho]) hm (index_ok hT h' (hv x) (hv y))
  · rename_i x i ho
    obtain ⟨h', rfl⟩ := map_pair h
    exact .of_runs (by simp only [execOp, ho]) hm (extract_ok h' (hv x))
  · rename_i cl ho
    exact call_ok hT hO hm ha ho hf h
  · cases h

end Go.Eng
