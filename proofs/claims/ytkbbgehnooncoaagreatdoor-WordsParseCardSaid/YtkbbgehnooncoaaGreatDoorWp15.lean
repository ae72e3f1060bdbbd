/- Each operation, as the machine carries it out. -/
import Derived.Test.YtkbbgehnooncoaaGreatDoorWp13
import Derived.OrdersIn
import Derived.RangeFuncLeaves
import Derived.RangeFuncRecord
section
namespace Go.Eng
open Go Go.RowKit
variable [Inhabited Pkg]
set_option linter.unusedSectionVars false

theorem opval_ok {c : Cx} {ts : List AV} {a : Act} (wf : WF c) (h : All2 (VL c) ts a.tmps.toList) (o : Operand) : VL c (opval ts o) (a.eval o) := by
  unfold opval
  split
  · rename_i t
    by_cases ht : t < ts.length
    · obtain ⟨v, q1, q2⟩ := h.get t ts[t] (by simp [ht])
      rw [Array.getElem?_toList] at q1
      have e1 : ts.getD t .dead = ts[t] := by simp [List.getD, ht]
      have e2 : a.eval (.tmp t) = v := by simp [Act.eval, Array.getD_eq_getD_getElem?, q1]
      rw [e1, e2]; exact q2
    · have e1 : ts.getD t .dead = .dead := by simp [List.getD, List.getElem?_eq_none (Nat.le_of_not_lt ht)]
      rw [e1]; exact .dead _
  · rename_i v
    unfold constV
    split
    · exact .dat (.bool _)
    · exact .dat (.int _ _)
    · exact .dat (.str _)
    · exact .nilp
    · exact .dat (.nil _)
    · exact .nili
    · exact .nilfn
    · exact .dead _
  · exact .fn (by simp) (by simp)
  · rename_i g
    unfold globV
    split
    · rename_i cs hg
      have := VL.dpt (c := c) (k := 0) (off := 0) (wf.pk.gl g cs hg)
      simpa [Act.eval] using this
    · exact .dead _

theorem all2_map {α : Type} {c : Cx} {f : α → AV} {g : α → Value} : ∀ (l : List α), (∀ x ∈ l, VL c (f x) (g x)) → All2 (VL c) (l.map f) (l.map g)
  | [], _ => trivial
  | x :: r, h => ⟨h x (by simp), all2_map r fun y hy => h y (by simp [hy])⟩

theorem all2_mapP {c : Cx} {f : Operand → AV} {g : Operand → Value} (h : ∀ x, VL c (f x) (g x)) : ∀ (l : List (Nat × Operand)),
    All2 (fun (p : Nat × AV) (q : Nat × Value) => p.1 = q.1 ∧ VL c p.2 q.2) (l.map fun p => (p.1, f p.2)) (l.map fun p => (p.1, g p.2))
  | [] => trivial
  | x :: r => ⟨⟨rfl, h x.2⟩, all2_mapP h r⟩

/-- the wide fence, in a round or not -/
def wF (ro : Option Nat) : Fence := { Fence.wide with round := ro }

theorem wF_fn (ro : Option Nat) (f : FuncId) : (wF ro).fn f := trivial

theorem callsIn_wF {ro : Option Nat} {n : Nat} {P : Program} {f : FuncId} {args : Array Value} {w : World} {R : Ending → World → Prop} (h : Calls P f args w R) : CallsIn (wF ro) n P f args w R :=
  (callsIn_wide (n := n)).2 h

theorem roundIn_wF {ro : Option Nat} {n : Nat} {P : Program} {l : Nat} {f : FuncId} {tmps : Array Value} {asg body : Code} {w : World} {R : Ending → World → Prop} (h : RoundIn Fence.wide n P l f tmps asg body w R) : RoundIn (wF ro) n P l f tmps asg body w R := h

/-- what an operation comes to -/
def OpOk (P : Program) (o : Oper) (a : Act) (c : Cx) (m' : Mem) (res : AV) : Prop :=
  ∀ (ro : Option Nat) (n : Nat) (next : Act → World → Prop) (Q : Exit → Act → World → Prop), (∀ cl, o.op ≠ .defer cl) → (∀ c' val, Ext c c' → MemOk c' m' → VL c' res val → next (a.put o.dst val) c'.w) → o.wpIn (wF ro) n P a c.w next Q

theorem OpOk.of_does {P : Program} {o : Oper} {a : Act} {c : Cx} {m' : Mem} {res : AV} {s : Sem Value} (he : execOp a.eval o = (do pure (.value (← s)))) (h : Does P c s m' res) : OpOk P o a c m' res := by
  intro ro n next Q hd hn
  obtain ⟨c', v, h1, h2, h3, h4⟩ := h
  refine ⟨fun _ _ => trivial, ?_⟩
  simp only [Oper.semAt_eq _ _ _ hd, he, Sem.run_bind, h1, Result.andThen_ok, Sem.run_pure, Oper.uponIn_value]
  exact hn c' v h2 h3 h4

theorem OpOk.of_runs {P : Program} {o : Oper} {a : Act} {c : Cx} {m : Mem} {res : AV} {s : Sem Value} (he : execOp a.eval o = (do pure (.value (← s)))) (hm : MemOk c m) (h : RunsTo P c s res) : OpOk P o a c m res :=
  .of_does he (h.does hm)

theorem OpOk.of_val {P : Program} {o : Oper} {a : Act} {c c' : Cx} {m' : Mem} {res : AV} {v : Value} (he : execOp a.eval o = pure (.value v)) (g : Ghost c c') (hm : MemOk c' m') (h : VL c' res v) : OpOk P o a c m' res := by
  intro ro n next Q hd hn
  refine ⟨fun _ _ => trivial, ?_⟩
  simp only [Oper.semAt_eq _ _ _ hd, he, Sem.run_pure, Oper.uponIn_value]
  rw [← g.w]
  exact hn c' v g.ext hm h

theorem map_some {α β : Type} {o : Option α} {f : α → β} {b : β} (h : o.map f = some b) : ∃ a, o = some a ∧ f a = b := by
  cases o with
  | none => cases h
  | some a => exact ⟨a, rfl, by simpa using h⟩

theorem map_pair {α : Type} {o : Option α} {m m' : Mem} {b : α} (h : o.map (·, m) = some (b, m')) : o = some b ∧ m' = m := by
  cases o with
  | none => cases h
  | some a =>
    simp only [Option.map_some, Option.some.injEq, Prod.mk.injEq] at h
    exact ⟨by rw [h.1], h.2.symm⟩

theorem optVL {c : Cx} {f : Operand → AV} {g : Operand → Value} (h : ∀ x, VL c (f x) (g x)) (o : Option Operand) : OptVL c (o.map f) (o.map g) := by
  cases o with
  | none => exact trivial
  | some x => exact h x

theorem toList_one {α : Type} {xs : Array α} {x : α} (h : xs.toList = [x]) : xs = #[x] := Array.ext' h
theorem toList_two {α : Type} {xs : Array α} {x y : α} (h : xs.toList = [x, y]) : xs = #[x, y] := Array.ext' h

theorem call_ok {P : Program} {T : Tab} {orc : Orc} {c : Cx} {m m' : Mem} (hT : TabOk P T) (hO : ∀ f, COk P f (orc f)) (hm : MemOk c m) {o : Oper} {a : Act} {ts : List AV} (ha : All2 (VL c) ts a.tmps.toList) {fresh : Nat} {res : AV} {cl : Call}
    (ho : o.op = .call cl) (hf : lays o = true → m.L[fresh]? = some none) (h : call T orc m fresh (opval ts) cl = some (res, m')) : OpOk P o a c m' res := by
  have hv := opval_ok hm.wf ha
  unfold call at h
  split at h
  · rename_i f hcl
    split at h
    · rename_i g caps hfv
      split at h
      case isFalse => cases h
      rename_i hlt
      have hfr : m.L[fresh]? = some none := hf (by simp [lays, ho, hcl])
      have hfun := hv f
      rw [hfv] at hfun
      generalize hev : a.eval f = fv at hfun
      cases hfun with
      | @fn _ _ vs hl hh =>
        have hall : All2 (VL c) (cl.args.toList.map (opval ts) ++ caps) (cl.args.map a.eval ++ vs).toList := by
          rw [Array.toList_append, Array.toList_map]
          exact (all2_map _ fun x _ => hv x).append (VL.all2 hl hh)
        obtain ⟨⟨fn, e1, e2, e3⟩, hcalls⟩ := (callF_ok hO hm hfr h hall).1 hlt
        intro ro n next Q hd hn
        have hrun : (execOp a.eval o).run P c.w = .ok (.enter g (cl.args.map a.eval ++ vs)) c.w := by
          simp only [execOp, ho, resolve, hcl, hev, Deferred.ofValue, Sem.run_bind, Sem.run_pure, Result.andThen_ok, invoke, callFunc, run_program, e1, e2, e3, Bool.false_eq_true, if_false]
          simp
        refine ⟨fun _ _ => trivial, ?_⟩
        simp only [Oper.semAt_eq _ _ _ hd, hrun, Oper.uponIn_enter]
        refine ⟨fun hdp => (by cases hdp), callsIn_wF (hcalls.mono fun e w' he => ?_)⟩
        cases e with
        | returned v =>
          obtain ⟨c', rfl, x, hm', hv'⟩ := he
          exact hn c' v x hm' hv'
        | panicked ch => exact he.elim
        | outgrown => exact he.elim
    · rename_i g hfv
      have hfr : m.L[fresh]? = some none := hf (by simp [lays, ho, hcl])
      have hfun := hv f
      rw [hfv] at hfun
      generalize hev : a.eval f = fv at hfun
      cases hfun with
      | @yld _ l hl =>
        have hall : All2 (VL c) (cl.args.toList.map (opval ts)) (cl.args.map a.eval).toList := by
          rw [Array.toList_map]
          exact all2_map _ fun x _ => hv x
        obtain ⟨fn, tmps, asg, body, e1, e2⟩ := (callF_ok hO hm hfr h hall).2 l (Nat.le_add_right _ _) (by rw [Nat.add_sub_cancel_left]; exact hl)
        intro ro n next Q hd hn
        have hrun : (execOp a.eval o).run P c.w = .ok (.round l fn tmps asg body) c.w := by
          rw [← e1]
          simp only [execOp, ho, resolve, hcl, hev, Deferred.ofValue, Sem.run_bind, Sem.run_pure, Result.andThen_ok, invoke, callFunc]
          simp
        refine ⟨fun _ _ => trivial, ?_⟩
        simp only [Oper.semAt_eq _ _ _ hd, hrun, Oper.uponIn_round]
        refine ⟨fun hdp => (by cases hdp), roundIn_wF ((e2 _).mono fun e w' he => ?_)⟩
        cases e with
        | returned v =>
          obtain ⟨c', rfl, x, hm', hv'⟩ := he
          exact hn c' v x hm' hv'
        | panicked ch => exact he.elim
        | outgrown => exact he.elim
    · cases h
  · rename_i b hcl
    have hex : ∀ s, builtin b cl.argTypes o.type (cl.args.map fun | .const _ => true | _ => false) (cl.args.map a.eval) = (do pure (.value (← s))) → execOp a.eval o = (do pure (.value (← s))) := by
      intro s hs
      rw [← hs]
      simp only [execOp, ho, resolve, hcl]
      rfl
    split at h
    · split at h
      · rename_i x t h1 h2
        obtain ⟨h', rfl⟩ := map_pair h
        have := lenOf_ok (ty := o.type) hT h' (hv x)
        refine .of_runs (hex _ ?_) hm this
        rw [toList_one h1, toList_one h2]
        have hmap : Array.map a.eval #[x] = #[a.eval x] := by simp
        rw [hmap]
        rfl
      · cases h
    · split at h
      · rename_i x y t t2 h1 h2
        have := append_ok (ty := o.type) hT hm (hf (by simp [lays, ho, hcl])) h (hv x) (hv y)
        refine .of_does (hex _ ?_) this
        rw [toList_two h1, toList_two h2]
        have hmap : Array.map a.eval #[x, y] = #[a.eval x, a.eval y] := by simp
        rw [hmap]
        rfl
      · cases h
    · obtain ⟨h', rfl⟩ := map_pair h
      have := minmax_ok (P := P) (ts := cl.argTypes) (ty := o.type) true h' (all2_map (g := a.eval) _ fun x _ => hv x)
      refine .of_runs (hex _ ?_) hm this
      simp only [builtin, if_true]
      rw [← Array.toList_map, Array.toArray_toList]
    · obtain ⟨h', rfl⟩ := map_pair h
      have := minmax_ok (P := P) (ts := cl.argTypes) (ty := o.type) false h' (all2_map (g := a.eval) _ fun x _ => hv x)
      refine .of_runs (hex _ ?_) hm this
      simp only [builtin, if_false, Bool.false_eq_true]
      rw [← Array.toList_map, Array.toArray_toList]
    · cases h
  · cases h

theorem sem_ok {P : Program} {T : Tab} {orc : Orc} {c : Cx} {m m' : Mem} (hT : TabOk P T) (hO : ∀ f, COk P f (orc f)) (hm : MemOk c m) {o : Oper} {a : Act} {ts : List AV} (ha : All2 (VL c) ts a.tmps.toList) {fresh : Nat} {res : AV}
    (hf : lays o = true → m.L[fresh]? = some none) (h : sem T orc o fresh (opval ts) m = some (res, m')) : OpOk P o a c m' res := by
  have hv := opval_ok hm.wf ha
  unfold sem at h
  split at h
  · rename_i x ho
    simp only [Option.some.injEq, Prod.mk.injEq] at h
    obtain ⟨rfl, rfl⟩ := h
    exact .of_val (by simp only [execOp, ho]) (.refl _) hm (hv x)
  · rename_i x ho
    obtain ⟨c', g, k, r⟩ := keep_ok h hm (hv x)
    exact .of_val (by simp only [execOp, ho]) g k r
  · rename_i x y z ho
    obtain ⟨h', rfl⟩ := map_pair h
    obtain ⟨b, h1, h2⟩ := pick_ok (P := P) h' (hv x) (hv y) (hv z)
    intro ro n next Q hd hn
    have hrun : (execOp a.eval o).run P c.w = .ok (.value (if b then a.eval y else a.eval z)) c.w := by
      simp only [execOp, ho, h1, asBool, Sem.run_bind, Sem.run_pure, Result.andThen_ok]
    refine ⟨fun _ _ => trivial, ?_⟩
    simp only [Oper.semAt_eq _ _ _ hd, hrun, Oper.uponIn_value]
    exact hn c _ (.refl _) hm h2
  · rename_i t ho
    exact .of_does (by simp only [execOp, ho]) (alloc_ok hT hm (hf (by simp [lays, ho])) h)
  · rename_i t x ho
    exact .of_does (s := Instr.box t (a.eval x)) (by simp only [execOp, ho]) (box_ok hm (hf (by simp [lays, ho])) h (hv x))
  · rename_i t ps ho
    obtain ⟨h', rfl⟩ := map_pair h
    refine .of_runs (by simp only [execOp, ho]) hm (?_ : RunsTo P c (Instr.build t (ps.map fun p => (p.1, a.eval p.2))) res)
    have := build_ok hT h' (all2_mapP (g := a.eval) hv ps.toList)
    rw [← Array.toList_map, Array.toArray_toList] at this
    exact this
  · rename_i t n ps ho
    refine .of_does (by simp only [execOp, ho]) (?_ : Does P c (Instr.buildSlice t n (ps.map fun p => (p.1, a.eval p.2))) m' res)
    have := buildSlice_ok hT hm (hf (by simp [lays, ho])) h (all2_mapP (g := a.eval) hv ps.toList)
    rw [← Array.toList_map, Array.toArray_toList] at this
    exact this
  · rename_i t x ho
    obtain ⟨h', rfl⟩ := map_pair h
    exact .of_runs (by simp only [execOp, ho]) hm (load_ok hT hm h' (hv x))
  · rename_i t x y ho
    obtain ⟨m1, h1, h2⟩ := map_some h
    simp only [Prod.mk.injEq] at h2
    obtain ⟨rfl, rfl⟩ := h2
    obtain ⟨c', q1, q2, q3⟩ := store_ok (P := P) hT hm h1 (hv x) (hv y)
    intro ro n next Q hd hn
    have hrun : (execOp a.eval o).run P c.w = .ok .skip c'.w := by
      simp only [execOp, ho, Sem.run_bind, q1, Result.andThen_ok, Sem.run_pure]
    refine ⟨fun _ _ => trivial, ?_⟩
    simp only [Oper.semAt_eq _ _ _ hd, hrun, Oper.uponIn_skip]
    exact hn c' _ q2 q3 .undef
  · rename_i x ho
    obtain ⟨h', rfl⟩ := map_pair h
    obtain ⟨rfl, h2⟩ := nilCheck_ok h' (hv x)
    have he : execOp a.eval o = pure (.value (a.eval x)) := by
      rcases h2 with ⟨ad, h2⟩ | ⟨f, y, h2⟩
      · simp only [execOp, ho, h2]
      · simp only [execOp, ho, h2]
        cases f <;> rfl
    exact .of_val he (.refl _) hm (hv x)
  · rename_i op t x y cc ho
    obtain ⟨h', rfl⟩ := map_pair h
    exact .of_runs (by simp only [execOp, ho]) hm (bin_ok hT h' (hv x) (hv y))
  · rename_i op t x ho
    obtain ⟨h', rfl⟩ := map_pair h
    exact .of_runs (by simp only [execOp, ho]) hm (un_ok h' (hv x))
  · rename_i s d x ho
    exact .of_does (by simp only [execOp, ho]) (convert_ok hT hm (hf (by simp [lays, ho])) h (hv x))
  · rename_i f first caps ho
    split at h
    · rename_i hcond
      simp only [Option.some.injEq, Prod.mk.injEq] at h
      obtain ⟨rfl, rfl⟩ := h
      have hfirst : first = #[] := by simpa using hcond.1
      refine .of_runs (by simp only [execOp, ho]) hm (?_ : RunsTo P c (Instr.makeFunc (.func f) (first.map a.eval) (caps.map a.eval)) _)
      refine ⟨_, rfl, ?_⟩
      subst hfirst
      have := all2_map (c := c) (f := opval ts) (g := a.eval) caps.toList fun x _ => hv x
      obtain ⟨z1, z2⟩ := VL.all2' (vs := (caps.map a.eval)) (by rw [Array.toList_map]; exact this)
      have hz : Array.map a.eval #[] = #[] := by simp
      rw [hz]
      exact .fn z1 z2
    · cases h
  · rename_i t x y ho
    exact .of_does (by simp only [execOp, ho]) (makeSlice_ok hT hm (hf (by simp [lays, ho])) h (hv x) (hv y))
  · rename_i t x lo hi mx ho
    obtain ⟨h', rfl⟩ := map_pair h
    exact .of_runs (by simp only [execOp, ho]) hm (slice_ok hT h' (hv x) (optVL hv _) (optVL hv _) (optVL hv _))
  · rename_i t x f ho
    obtain ⟨h', rfl⟩ := map_pair h
    exact .of_runs (by simp only [execOp, ho]) hm (fieldAddr_ok hT h' (hv x))
  · rename_i t x f ho
    obtain ⟨h', rfl⟩ := map_pair h
    exact .of_runs (by simp only [execOp, ho]) hm (field_ok hT h' (hv x))
  · rename_i t x y ho
    obtain ⟨h', rfl⟩ := map_pair h
    exact .of_runs (by simp only [execOp, ho]) hm (indexAddr_ok hT h' (hv x) (hv y))
  · rename_i t x y ho
    obtain ⟨h', rfl⟩ := map_pair h
    exact .of_runs (by simp only [execOp, ho]) hm (index_ok hT h' (hv x) (hv y))
  · rename_i x i ho
    obtain ⟨h', rfl⟩ := map_pair h
    exact .of_runs (by simp only [execOp, ho]) hm (extract_ok h' (hv x))
  · rename_i cl ho
    exact call_ok hT hO hm ha ho hf h
  · cases h

theorem semX_ok {P : Program} {T : Tab} {orc : Orc} {c : Cx} {m m' : Mem} (hT : TabOk P T) (hO : ∀ f, COk P f (orc f)) (hm : MemOk c m) {o : Oper} {a : Act} {ts : List AV} (ha : All2 (VL c) ts a.tmps.toList) {d : Option (List Nat)} {fresh : Nat} {res : AV}
    (hf : lays o = true → m.L[fresh]? = some none) (h : semX d T orc o fresh (opval ts) m = some (res, m')) : OpOk P o a c m' res := by
  cases d with
  | none => exact sem_ok hT hO hm ha hf h
  | some mx =>
    unfold semX semD at h
    simp only at h
    split at h
    · rename_i x ho
      simp only [Option.some.injEq, Prod.mk.injEq] at h
      obtain ⟨rfl, rfl⟩ := h
      exact .of_val (by simp only [execOp, ho]) (.refl _) hm (opval_ok hm.wf ha x)
    · exact sem_ok hT hO hm ha hf h

end Go.Eng
end

/- Regions: one operation after the other. -/
section
namespace Go.Eng
open Go Go.RowKit
variable [Inhabited Pkg]
set_option linter.unusedSectionVars false

/-! ### free places -/

structure FreeBut (k : Nat) (m m' : Mem) : Prop where
  free : ∀ (i : Nat), i ≠ k → m.L[i]? = some none → m'.L[i]? = some none
  len : m'.L.length = m.L.length

theorem Free.but {m m' : Mem} (h : Free m m') (k : Nat) : FreeBut k m m' := ⟨fun i _ hi => h.free i hi, h.len⟩

theorem FreeBut.trans {k : Nat} {a b c : Mem} (h : FreeBut k a b) (q : FreeBut k b c) : FreeBut k a c := ⟨fun i hi hn => q.free i hi (h.free i hi hn), q.len.trans h.len⟩

theorem FreeBut.set (m : Mem) (k : Nat) (e : Ent) : FreeBut k m (m.set (.loc k) e) := by
  refine ⟨fun i hi hn => ?_, by simp [Mem.set]⟩
  simp only [Mem.set]
  rw [set_get, if_neg (fun h => hi h.1.symm)]
  exact hn

theorem Free.G {m : Mem} {G : List Ent} {ep : Nat} : Free m { m with G := G, ep := ep } := ⟨fun _ h => h, rfl⟩

theorem Free.tick (m : Mem) : Free m m.tick := ⟨fun _ h => h, rfl⟩

theorem store_free {T : Tab} {m m' : Mem} {t : TypeId} {a x : AV} (h : store T m t a x = some m') : Free m m' := by
  unfold store at h
  split at h
  · split at h
    · rename_i xs m0 hk
      have f0 := mapS_free (fun _ _ _ _ h => keep_free h) _ _ _ _ hk
      split at h
      · split at h
        · split at h
          · split at h
            · rename_i hget
              split at h
              · injection h with h; subst h; exact f0.trans (.set hget)
              · cases h
            · cases h
          · split at h
            · rename_i hg
              have f1 := giveL_free (give_free 2) _ _ _ _ _ _ hg
              split at h
              · split at h
                · injection h with h; subst h; exact (f0.trans f1).trans ⟨fun _ h => h, rfl⟩
                · cases h
              · cases h
            · cases h
        · split at h
          · rename_i hs
            have f1 := mapS_free (fun _ _ _ _ h => snap_free h) _ _ _ _ hs
            split at h
            · rename_i hget
              split at h
              · split at h
                · split at h
                  · injection h with h; subst h; exact (f0.trans f1).trans (.set hget)
                  · cases h
                · cases h
              · cases h
            · cases h
          · cases h
        · split at h
          · rename_i hs
            have f1 := mapS_free (fun _ _ _ _ h => snap_free h) _ _ _ _ hs
            split at h
            · split at h
              · split at h
                · split at h
                  · injection h with h; subst h; exact (f0.trans f1).trans .setRow
                  · cases h
                · cases h
              · cases h
            · cases h
          · cases h
        · cases h
      · cases h
    · cases h
  · cases h

theorem append_free {T : Tab} {m m' : Mem} {k : Nat} {t t2 : TypeId} {x y res : AV} (h : append T m k t t2 x y = some (res, m')) : FreeBut k m m' := by
  unfold append at h
  split at h
  · split at h
    · split at h
      · split at h
        · split at h
          · split at h
            · try dsimp only at h
              split at h
              · split at h
                · simp only [Option.some.injEq, Prod.mk.injEq] at h
                  rw [← h.2]; exact (Free.refl _).but _
                · simp only [Option.some.injEq, Prod.mk.injEq] at h
                  rw [← h.2]; exact .set _ _ _
              · cases h
            · try dsimp only at h
              split at h
              · split at h
                · simp only [Option.some.injEq, Prod.mk.injEq] at h
                  rw [← h.2]; exact (Free.refl _).but _
                · simp only [Option.some.injEq, Prod.mk.injEq] at h
                  rw [← h.2]; exact .set _ _ _
              · cases h
            · try dsimp only at h
              split at h
              · split at h
                · rename_i hget
                  split at h
                  · split at h
                    · split at h
                      · split at h
                        · simp only [Option.some.injEq, Prod.mk.injEq] at h
                          rw [← h.2]; exact (Free.refl _).but _
                        · simp only [Option.some.injEq, Prod.mk.injEq] at h
                          rw [← h.2]; exact .set _ _ _
                      · split at h
                        · simp only [Option.some.injEq, Prod.mk.injEq] at h
                          rw [← h.2]
                          exact ((Free.set hget).but k).trans (.set _ _ _)
                        · cases h
                    · cases h
                  · cases h
                · cases h
              · cases h
            · try dsimp only at h
              split at h
              · split at h
                · split at h
                  · split at h
                    · split at h
                      · split at h
                        · simp only [Option.some.injEq, Prod.mk.injEq] at h
                          rw [← h.2]; exact (Free.refl _).but _
                        · simp only [Option.some.injEq, Prod.mk.injEq] at h
                          rw [← h.2]; exact .set _ _ _
                      · split at h
                        · simp only [Option.some.injEq, Prod.mk.injEq] at h
                          rw [← h.2]
                          exact ((Free.setRow.trans (Free.tick _)).but k).trans (.set _ _ _)
                        · cases h
                    · cases h
                  · cases h
                · cases h
              · cases h
            · cases h
          · cases h
        · cases h
      · cases h
    · cases h
  · cases h

theorem callF_free {orc : Orc} {m m' : Mem} {k : Nat} {f : FuncId} {as : List AV} {res : AV} (h : callF orc m k f as = some (res, m')) : FreeBut k m m' := by
  unfold callF at h
  split at h
  · rename_i hp
    have f0 := mapS_free (fun _ _ _ _ h => pass_free h) _ _ _ _ hp
    split at h
    · unfold take at h
      split at h
      · simp only [Option.some.injEq, Prod.mk.injEq] at h
        rw [← h.2]
        exact ((f0.trans Free.G).but k).trans (.set _ _ _)
      all_goals first
        | (cases h; done)
        | (simp only [Option.some.injEq, Prod.mk.injEq] at h
           rw [← h.2]
           exact (f0.trans Free.G).but k)
    · cases h
  · cases h

theorem sem_free {T : Tab} {orc : Orc} {o : Oper} {k : Nat} {v : Operand → AV} {m m' : Mem} {res : AV} (h : sem T orc o k v m = some (res, m')) :
    FreeBut k m m' ∧ (lays o = false → Free m m') := by
  unfold sem at h
  have P : ∀ {o' : Option AV}, o'.map (·, m) = some (res, m') → FreeBut k m m' ∧ (lays o = false → Free m m') := fun h => by
    obtain ⟨_, rfl⟩ := map_pair h
    exact ⟨(Free.refl _).but _, fun _ => .refl _⟩
  split at h
  · simp only [Option.some.injEq, Prod.mk.injEq] at h
    rw [← h.2]
    exact ⟨(Free.refl _).but _, fun _ => .refl _⟩
  · exact ⟨(keep_free h).but _, fun _ => keep_free h⟩
  · exact P h
  · rename_i ho
    refine ⟨?_, fun hl => by simp [lays, ho] at hl⟩
    unfold alloc at h
    split at h
    · simp only [Option.some.injEq, Prod.mk.injEq] at h
      rw [← h.2]; exact .set _ _ _
    · cases h
  · rename_i ho
    refine ⟨?_, fun hl => by simp [lays, ho] at hl⟩
    unfold box at h
    split at h
    · rename_i hk
      split at h
      · simp only [Option.some.injEq, Prod.mk.injEq] at h
        rw [← h.2]; exact ((mapS_free (fun _ _ _ _ h => keep_free h) _ _ _ _ hk).but k).trans (.set _ _ _)
      · cases h
    · cases h
  · exact P h
  · rename_i ho
    refine ⟨?_, fun hl => by simp [lays, ho] at hl⟩
    unfold buildSlice at h
    split at h
    · split at h
      · split at h
        · split at h
          · split at h
            · split at h
              · rename_i hk
                simp only [Option.some.injEq, Prod.mk.injEq] at h
                rw [← h.2]; exact ((mapS_free (fun _ _ _ _ h => snap_free h) _ _ _ _ hk).but k).trans (.set _ _ _)
              · cases h
            · cases h
          · cases h
        · cases h
      · cases h
    · cases h
  · exact P h
  · obtain ⟨m1, h1, h2⟩ := map_some h
    simp only [Prod.mk.injEq] at h2
    obtain ⟨_, rfl⟩ := h2
    exact ⟨(store_free h1).but _, fun _ => store_free h1⟩
  · exact P h
  · exact P h
  · exact P h
  · rename_i ho
    refine ⟨?_, fun hl => by simp [lays, ho] at hl⟩
    unfold convert at h
    obtain ⟨⟨a0, e0⟩, _, h'⟩ := map_some h
    simp only [Prod.mk.injEq] at h'
    rw [← h'.2]
    cases e0 with
    | none => exact (Free.refl _).but _
    | some e => exact .set _ _ _
  · split at h
    · simp only [Option.some.injEq, Prod.mk.injEq] at h
      rw [← h.2]; exact ⟨(Free.refl _).but _, fun _ => .refl _⟩
    · cases h
  · rename_i ho
    refine ⟨?_, fun hl => by simp [lays, ho] at hl⟩
    unfold makeSlice at h
    split at h
    · split at h
      · split at h
        · split at h
          · split at h
            · rename_i hk
              split at h
              · simp only [Option.some.injEq, Prod.mk.injEq] at h
                rw [← h.2]; exact ((mapS_free (fun _ _ _ _ h => snap_free h) _ _ _ _ hk).but k).trans (.set _ _ _)
              · cases h
            · cases h
          · cases h
        · cases h
      · cases h
    · cases h
  · exact P h
  · exact P h
  · exact P h
  · exact P h
  · exact P h
  · exact P h
  · rename_i cl ho
    unfold call at h
    split at h
    · rename_i hcl
      split at h
      · split at h
        · exact ⟨callF_free h, fun hl => by simp [lays, ho, hcl] at hl⟩
        · cases h
      · exact ⟨callF_free h, fun hl => by simp [lays, ho, hcl] at hl⟩
      · cases h
    · rename_i hcl
      split at h
      · split at h
        · exact P h
        · cases h
      · split at h
        · exact ⟨append_free h, fun hl => by simp [lays, ho, hcl] at hl⟩
        · cases h
      · exact P h
      · exact P h
      · cases h
    · cases h
  · cases h

/-! ### one after the other -/

theorem All2.set {α β : Type} {R : α → β → Prop} : ∀ {as : List α} {bs : List β} (d : Nat) {x : α} {y : β}, All2 R as bs → R x y → All2 R (as.set d x) (bs.set d y)
  | [], [], _, _, _, _, _ => trivial
  | _ :: _, _ :: _, 0, _, _, h, k => ⟨k, h.2⟩
  | _ :: _, _ :: _, d + 1, _, _, h, k => ⟨h.1, All2.set d h.2 k⟩
  | [], _ :: _, _, _, _, h, _ => h.elim
  | _ :: _, [], _, _, _, h, _ => h.elim

theorem put_ok {c : Cx} {ts : List AV} {a : Act} (h : All2 (VL c) ts a.tmps.toList) (d : Option Nat) {x : AV} {v : Value} (hv : VL c x v) : All2 (VL c) (putT ts d x) (a.put d v).tmps.toList := by
  cases d with
  | none => exact h
  | some d => simpa [putT, Act.put] using h.set d hv

theorem put_defers (a : Act) (d : Option Nat) (v : Value) : (a.put d v).defers = a.defers := by
  cases d <;> rfl

theorem goes_ok {c : Cx} {ops : Array Oper} {ts : List AV} {a : Act} (h : All2 (VL c) ts a.tmps.toList) {o : Oper} {b : Bool} (hg : goes ops.toList ts o = some b) : Region.wanted o (yielded ops a.tmps) = b := by
  unfold goes at hg
  unfold Region.wanted
  split at hg
  · rename_i ho
    injection hg with hg
    simp only [ho, hg]
  · rename_i j want ho
    simp only [ho]
    split at hg
    · rename_i d hd
      have hd' : (ops[j]?).bind (·.dst) = some d := by rw [← Array.getElem?_toList]; exact hd
      split at hg
      · rename_i b' hb
        injection hg with hg
        obtain ⟨v, q1, q2⟩ := h.get _ _ hb
        rw [Array.getElem?_toList] at q1
        cases q2 with | dat q2 => cases q2 with | bool =>
        simp only [yielded, hd', Option.bind_some, q1]
        rw [← hg]; rfl
      · rename_i hb
        injection hg with hg
        obtain ⟨v, q1, q2⟩ := h.get _ _ hb
        rw [Array.getElem?_toList] at q1
        cases q2
        simp only [yielded, hd', Option.bind_some, q1]
        rw [← hg]; rfl
      · cases hg
    · cases hg

/-- the state that the evaluator tells of -/
structure Sim (ds : List Deferred) (c : Cx) (st : St) (a : Act) : Prop where
  mem : MemOk c st.mem
  tmps : All2 (VL c) st.tmps a.tmps.toList
  defers : a.defers = ds

variable {ds : List Deferred}

theorem rank_lt {ops : List Oper} {i j : Nat} {o : Oper} (ho : ops[i]? = some o) (hl : lays o = true) (hij : i < j) : rank ops i < rank ops j := by
  have hi := (List.getElem?_eq_some_iff.1 ho).1
  have h1 : rank ops (i + 1) = rank ops i + 1 := by
    unfold rank
    rw [List.take_add_one, ho]
    simp [List.filter_append, hl]
  have h2 : rank ops (i + 1) ≤ rank ops j := by
    unfold rank
    have : ops.take (i + 1) = (ops.take j).take (i + 1) := by rw [List.take_take, Nat.min_eq_left (by omega)]
    rw [this]
    exact ((List.take_sublist _ _).filter _).length_le
  omega

/-- the places that what is still to come will lay its entities at -/
def Ahead (ops : List Oper) (base : Nat) (l : List Nat) (m : Mem) : Prop := ∀ i ∈ l, ∀ o, ops[i]? = some o → lays o = true → m.L[base + rank ops i]? = some none

theorem VL.weak {c : Cx} {a : AV} {v : Value} (h : VL c a v) : VL c (weak a) v := by
  cases h with
  | gh hle hm hf he h =>
    refine .gh hle hm hf (Nat.zero_le _) fun e0 => h ?_
    omega
  | dead v => exact .dead v
  | undef => exact .undef
  | dat h => exact .dat h
  | sh hb hl h => exact .sh hb hl h
  | ptrl hb => exact .ptrl hb
  | ptrg hb => exact .ptrg hb
  | nilp => exact .nilp
  | ept hb => exact .ept hb
  | gept he h => exact .gept he h
  | dpt h => exact .dpt h
  | fn hl h => exact .fn hl h
  | nilfn => exact .nilfn
  | yld hb => exact .yld hb
  | agg hl h => exact .agg hl h
  | tup hl h => exact .tup hl h
  | nili => exact .nili
  | err t v => exact .err t v

theorem VL.dW {c : Cx} {a : AV} {v : Value} (h : VL c a v) (d : Option (List Nat)) (i : Nat) (o : Oper) : VL c (dW d i o a) v := by
  unfold Go.Eng.dW
  split
  · exact h
  · split
    · exact h.weak
    · exact h

theorem semX_free {d : Option (List Nat)} {T : Tab} {orc : Orc} {o : Oper} {k : Nat} {v : Operand → AV} {m m' : Mem} {res : AV} (h : semX d T orc o k v m = some (res, m')) :
    FreeBut k m m' ∧ (lays o = false → Free m m') := by
  cases d with
  | none => exact sem_free h
  | some mx =>
    unfold semX semD at h
    simp only at h
    split at h
    · simp only [Option.some.injEq, Prod.mk.injEq] at h
      rw [← h.2]
      exact ⟨(Free.refl _).but _, fun _ => .refl _⟩
    · exact sem_free h

theorem evOp_ok {P : Program} {T : Tab} {orc : Orc} (hT : TabOk P T) (hO : ∀ f, COk P f (orc f)) {ops : Array Oper} {base : Nat} {d : Option (List Nat)} {i : Nat} {st st1 : St} {c : Cx} {a : Act} (h : evOp T orc d ops.toList base i st = some st1) (hs : Sim ds c st a)
    (hf : ∀ o, ops.toList[i]? = some o → lays o = true → st.mem.L[base + rank ops.toList i]? = some none) {ro : Option Nat} {n : Nat} {Q : Exit → Act → World → Prop} {K : Act → World → Prop} (hK : ∀ c' a', Ext c c' → Sim ds c' st1 a' → K a' c'.w) :
    wpOpIn (wF ro) n P ops Q i K a c.w := by
  unfold evOp at h
  unfold wpOpIn
  rw [← Array.getElem?_toList]
  split at h
  · rename_i ho
    injection h with h
    subst h
    simp only [ho]
    exact hK c a (.refl _) hs
  · rename_i o ho
    simp only [ho]
    split at h
    · rename_i hg
      rw [goes_ok hs.tmps hg, if_pos rfl]
      split at h
      · cases h
      · split at h
        · rename_i res m' hsem
          split at h
          · injection h with h
            subst h
            have := semX_ok hT hO hs.mem hs.tmps (hf o ho) hsem
            have hd : ∀ cl, o.op ≠ .defer cl := fun cl e => by cases d <;> simp [semX, semD, sem, e] at hsem
            exact this ro n K Q hd fun c' val x hm hv => hK c' _ x ⟨hm, put_ok (x.all2 hs.tmps) _ (hv.dW _ _ _), by rw [put_defers]; exact hs.defers⟩
          · cases h
        · cases h
    · rename_i hg
      injection h with h
      subst h
      rw [goes_ok hs.tmps hg]
      simp only [Bool.false_eq_true, if_false]
      refine ⟨fun _ _ => trivial, ?_⟩
      exact hK c _ (.refl _) ⟨hs.mem, put_ok hs.tmps _ .undef, by rw [put_defers]; exact hs.defers⟩
    · cases h

theorem evOp_free {T : Tab} {orc : Orc} {ops : List Oper} {base : Nat} {d : Option (List Nat)} {i : Nat} {st st1 : St} (h : evOp T orc d ops base i st = some st1) :
    st1.mem.L.length = st.mem.L.length ∧ st1.tmps.length = st.tmps.length ∧ ∀ k, (∀ o, ops[i]? = some o → lays o = true → k ≠ base + rank ops i) → st.mem.L[k]? = some none → st1.mem.L[k]? = some none := by
  unfold evOp at h
  split at h
  · injection h with h
    subst h
    exact ⟨rfl, rfl, fun _ _ h => h⟩
  · rename_i o ho
    split at h
    · split at h
      · cases h
      · split at h
        · rename_i res m' hsem
          split at h
          · injection h with h
            subst h
            obtain ⟨f1, f2⟩ := semX_free hsem
            refine ⟨f1.len, by cases o.dst <;> simp [putT], fun k hk hn => ?_⟩
            cases hl : lays o with
            | true => exact f1.free k (hk o ho hl) hn
            | false => exact (f2 hl).free k hn
          · cases h
        · cases h
    · injection h with h
      subst h
      exact ⟨rfl, by cases o.dst <;> simp [putT], fun _ _ h => h⟩
    · cases h

theorem evOps_ok {P : Program} {T : Tab} {orc : Orc} (hT : TabOk P T) (hO : ∀ f, COk P f (orc f)) {ops : Array Oper} {base : Nat} {d : Option (List Nat)} : ∀ (l : List Nat) (st st1 : St) (c : Cx) (a : Act), evOps T orc d ops.toList base l st = some st1 → Sim ds c st a → l.Nodup →
    Ahead ops.toList base l st.mem → ∀ {ro : Option Nat} {n : Nat} {Q : Exit → Act → World → Prop}, (∀ c' a', Ext c c' → Sim ds c' st1 a' → Q .normal a' c'.w) → wpOpsIn (wF ro) n P ops Q l a c.w
  | [], st, st1, c, a, h, hs, _, _, ro, n, Q, hQ => by
    simp only [evOps, Option.some.injEq] at h
    subst h
    exact hQ c a (.refl _) hs
  | i :: r, st, st1, c, a, h, hs, hn, hf, ro, n, Q, hQ => by
    simp only [evOps] at h
    split at h
    · rename_i st2 h2
      rw [wpOpsIn_cons]
      refine evOp_ok hT hO h2 hs (fun o ho hl => hf i (by simp) o ho hl) fun c' a' x hs' => ?_
      refine evOps_ok hT hO r st2 st1 c' a' h hs' (List.nodup_cons.1 hn).2 (fun j hj o ho hl => ?_) fun c2 a2 x2 hs2 => hQ c2 a2 (x.trans x2) hs2
      refine (evOp_free h2).2.2 _ (fun o' ho' hl' e => ?_) (hf j (by simp [hj]) o ho hl)
      have hne : i ≠ j := fun e => (List.nodup_cons.1 hn).1 (e ▸ hj)
      rcases Nat.lt_or_gt_of_ne hne with hlt | hlt
      · have := rank_lt ho' hl' hlt; omega
      · have := rank_lt ho hl hlt; omega
    · cases h

end Go.Eng
end

/- Ranges over functions: the blocks that they lay. -/
section
namespace Go.Eng
open Go Go.RowKit
variable [Inhabited Pkg]
set_option linter.unusedSectionVars false

/-- a block that holds no cells -/
def bare : Obj → Bool
  | .cells _ _ _ => false
  | _ => true

theorem bare_cell {w : World} {b : Nat} {o : Obj} (h : w.heap[b]? = some o) (hb : bare o = true) (j : Nat) : w.cell? ⟨b, j, none⟩ = none := by
  cases o <;> first
    | (simp [bare] at hb; done)
    | simp [World.cell?, h]

theorem bare_shape {w : World} {b : Nat} {o : Obj} (h : w.heap[b]? = some o) (hb : bare o = true) : w.shape? b = none := by
  cases o <;> first
    | (simp [bare] at hb; done)
    | simp [World.shape?, h]

/-- a block without cells turns -/
def Cx.putO (c : Cx) (b : Nat) (o : Obj) : Cx := { c with w := c.w.putObj b o }

theorem putO_heap {c : Cx} {b x : Nat} {o : Obj} (hx : x ≠ b) : (c.putO b o).w.heap[x]? = c.w.heap[x]? := World.putObj_heap_other hx

theorem putO_ext {c : Cx} {b : Nat} {o o' : Obj} (h : c.w.heap[b]? = some o) (hb : bare o = true) (hb' : bare o' = true) (ho : c.own b ≠ none) : Ext c (c.putO b o') := by
  have hlt : b < c.w.heap.size := (Array.getElem?_eq_some_iff.1 h).1
  have hn : (c.putO b o').w.heap[b]? = some o' := World.putObj_heap_same hlt
  refine ⟨rfl, rfl, rfl, by simp [Cx.putO], ⟨fun x k hk => ?_, fun x => Nat.le_refl _⟩, fun x hx hno => ?_, fun x s hs => ?_, fun _ _ h => h, fun _ _ h => h, fun _ _ _ => rfl, Nat.le_refl _, fun _ g x j v hg hv => ?_⟩
  · by_cases e : x = b
    · subst e; rw [bare_cell hn hb', bare_cell h hb]
    · exact World.cell?_of_block (a := ⟨x, k, none⟩) (putO_heap e)
  · have e : x ≠ b := fun e => ho (e ▸ hno)
    exact ⟨putO_heap e, hno, rfl⟩
  · by_cases e : x = b
    · subst e; rw [bare_shape h hb] at hs; cases hs
    · have := putO_heap (c := c) (o := o') e
      simpa [World.shape?, this] using hs
  · by_cases e : x = b
    · subst e; rw [bare_cell h hb] at hv; cases hv
    · rw [World.cell?_of_block (a := ⟨x, j, none⟩) (putO_heap e)]; exact hv

theorem putO_same {c : Cx} {b : Nat} {o' : Obj} {who : Who} (hw : c.own b ≠ some who) : Same c (c.putO b o') who := fun x hx => by
  have e : x ≠ b := fun e => hw (e ▸ hx)
  exact ⟨putO_heap e, hx, rfl⟩

theorem putO_wf {c : Cx} {b : Nat} {o' : Obj} (h : WF c) (x : Ext c (c.putO b o')) : WF (c.putO b o') :=
  ⟨fun x hx => h.lv x (by simpa [Cx.putO] using hx), fun x hx => h.own x (by simpa [Cx.putO] using hx), h.pk.stay x.stay x.sh⟩

/-- a new block without cells: nobody's, or entity g's -/
def Cx.newO (c : Cx) (o : Obj) (g : Option Nat) : Cx :=
  { c with
    w := c.w.alloc o
    own := fun x => match g with
      | some g => if x = c.w.heap.size then some (.gobj g) else c.own x
      | none => c.own x
    bg := fun k => match g with
      | some g => if k = g then some c.w.heap.size else c.bg k
      | none => c.bg k }

theorem newO_heap {c : Cx} {o : Obj} {g : Option Nat} {x : Nat} (hx : x < c.w.heap.size) : (c.newO o g).w.heap[x]? = c.w.heap[x]? := by
  show (c.w.heap.push o)[x]? = _
  rw [Array.getElem?_push, if_neg (by omega)]

theorem newO_new {c : Cx} {o : Obj} {g : Option Nat} : (c.newO o g).w.heap[c.w.heap.size]? = some o := World.alloc_heap_new c.w o

theorem newO_size {c : Cx} {o : Obj} {g : Option Nat} : (c.newO o g).w.heap.size = c.w.heap.size + 1 := by simp [Cx.newO]

theorem newO_own {c : Cx} {o : Obj} {g : Option Nat} {x : Nat} (hx : x ≠ c.w.heap.size) : (c.newO o g).own x = c.own x := by
  cases g <;> simp [Cx.newO, hx]

theorem newO_ext {c : Cx} {o : Obj} {g : Option Nat} (wf : WF c) (hg : ∀ k, g = some k → c.bg k = none) : Ext c (c.newO o g) := by
  refine ⟨rfl, rfl, rfl, by rw [newO_size]; omega, ⟨fun x k hk => ?_, fun x => Nat.le_refl _⟩, fun x hx hno => ?_, fun x s hs => ?_, fun _ _ h => h, fun k b hb => ?_, fun _ _ _ => rfl, Nat.le_refl _, fun _ k x j v _ hv => ?_⟩
  · have hx : x < c.w.heap.size := by
      rcases Nat.lt_or_ge x c.w.heap.size with h | h
      · exact h
      · rw [wf.lv x h] at hk; omega
    exact World.cell?_of_block (a := ⟨x, k, none⟩) (newO_heap hx)
  · exact ⟨newO_heap hx, by rw [newO_own (by omega)]; exact hno, rfl⟩
  · have hx : x < c.w.heap.size := by
      rcases Nat.lt_or_ge x c.w.heap.size with h | h
      · exact h
      · simp [World.shape?, Array.getElem?_eq_none h] at hs
    have := newO_heap (c := c) (o := o) (g := g) hx
    simpa [World.shape?, this] using hs
  · cases g with
    | none => exact hb
    | some g =>
      have : k ≠ g := fun e => by rw [e, hg g rfl] at hb; cases hb
      simp [Cx.newO, this, hb]
  · have hx : x < c.w.heap.size := World.block_lt_of_cell? c.w ⟨x, j, none⟩ hv
    rw [World.cell?_of_block (a := ⟨x, j, none⟩) (newO_heap hx)]; exact hv

theorem newO_same {c : Cx} {o : Obj} {g : Option Nat} (wf : WF c) (who : Who) : Same c (c.newO o g) who := fun x hx => by
  have hb := MemOk.lt_own wf hx
  exact ⟨newO_heap hb, by rw [newO_own (by omega)]; exact hx, rfl⟩

theorem newO_wf {c : Cx} {o : Obj} {g : Option Nat} (h : WF c) : WF (c.newO o g) := by
  refine ⟨fun x hx => ?_, fun x hx => ?_, h.pk.stay ⟨fun x k hk => ?_, fun x => Nat.le_refl _⟩ (fun x s hs => ?_)⟩
  case refine_4 =>
    have hx : x < c.w.heap.size := by
      rcases Nat.lt_or_ge x c.w.heap.size with h' | h'
      · exact h'
      · simp [World.shape?, Array.getElem?_eq_none h'] at hs
    simpa [World.shape?, newO_heap hx] using hs
  case refine_3 =>
    have hx : x < c.w.heap.size := by
      rcases Nat.lt_or_ge x c.w.heap.size with h' | h'
      · exact h'
      · rw [h.lv x h'] at hk; omega
    exact World.cell?_of_block (a := ⟨x, k, none⟩) (newO_heap hx)
  all_goals rw [newO_size] at hx
  · exact h.lv x (by omega)
  · rw [newO_own (by omega)]; exact h.own x (by omega)

/-! ### a block that is nobody's comes to somebody -/

def Cx.claim (c : Cx) (b : Nat) (who : Who) : Cx := { c with own := fun x => if x = b then some who else c.own x }

theorem VL.claim {c : Cx} {b : Nat} {who : Who} {a : AV} {v : Value} (h : VL c a v) : VL (c.claim b who) a v := by
  induction h with
  | dead v => exact .dead v
  | undef => exact .undef
  | dat h => exact .dat h
  | sh hb hl h => exact .sh hb hl h
  | gh hle hm hf he h => exact .gh hle hm hf he h
  | ptrl hb => exact .ptrl hb
  | ptrg hb => exact .ptrg hb
  | nilp => exact .nilp
  | ept hb => exact .ept hb
  | gept he h => exact .gept he h
  | dpt h => exact .dpt h
  | fn hl _ ih => exact .fn hl ih
  | nilfn => exact .nilfn
  | yld hb => exact .yld hb
  | agg hl _ ih => exact .agg hl ih
  | tup hl _ ih => exact .tup hl ih
  | nili => exact .nili
  | err t v => exact .err t v

theorem claim_own {c : Cx} {b : Nat} {who : Who} (hn : c.own b = none) {x : Nat} {w' : Who} (h : c.own x = some w') : (c.claim b who).own x = some w' := by
  have : x ≠ b := fun e => by rw [e, hn] at h; cases h
  simp [Cx.claim, this, h]

theorem claim_wf {c : Cx} {b : Nat} {who : Who} (h : WF c) (hb : b < c.w.heap.size) : WF (c.claim b who) :=
  ⟨h.lv, fun x hx => by
    have : x ≠ b := fun e => by rw [e] at hx; exact absurd hb (Nat.not_lt.2 hx)
    simp only [Cx.claim, if_neg this]; exact h.own x hx, h.pk⟩

theorem claim_mem {c : Cx} {b : Nat} {who : Who} {m : Mem} (hm : MemOk c m) (hn : c.own b = none) (hb : b < c.w.heap.size) : MemOk (c.claim b who) m where
  wf := claim_wf hm.wf hb
  ep := hm.ep
  ln := hm.ln
  gn := hm.gn
  g := fun g e hg => GOk.cx (c := c) rfl rfl rfl (fun _ _ _ ho => claim_own hn ho) (hm.g g e hg)
  l := fun i e hi => by
    have h := hm.l i e hi
    cases e with
    | obj cs =>
      obtain ⟨b', cur, ty, h1, h2, h3, h4, h5⟩ := h
      refine ⟨b', cur, ty, h1, h2, claim_own hn h3, h4, h5.1, fun j a ha => ?_⟩
      obtain ⟨v, q1, q2⟩ := h5.2 j a ha
      exact ⟨v, q1, q2.claim⟩
    | row md sz xs =>
      obtain ⟨b', cap, h1, h2, h3⟩ := h
      refine ⟨b', cap, h1, h2, ?_⟩
      cases md with
      | ro => exact h3
      | own => exact RowOk.cx (c := c) rfl rfl (claim_own hn (RowOk.own h3)) h3
      | excl => exact RowOk.cx (c := c) rfl rfl (claim_own hn (RowOk.own h3)) h3
    | fwd g => exact h
    | lrec => exact h.elim
    | gone => trivial

/-- a step that turns no entity -/
theorem MemOk.still {c c' : Cx} {m : Mem} (h : MemOk c m) (x : Ext c c') (wf : WF c') (ep : c'.ep = c.ep) (hbl : c'.bl = c.bl) (hbg : c'.bg = c.bg) (s : ∀ i, Same c c' (.lent i)) (sg : ∀ g, g < m.G.length → Same c c' (.gobj g)) (sr : ∀ g j, g < m.G.length → Same c c' (.grow g j)) : MemOk c' m :=
  h.of x wf (by rw [ep]; exact h.ep) (fun i e hi => .inl ⟨hi, s i⟩) (fun i hi => by rw [hbl]; exact h.ln i hi)
    (fun g e hg => .inl ⟨hg, sg g (List.getElem?_eq_some_iff.1 hg).1, fun j => sr g j (List.getElem?_eq_some_iff.1 hg).1⟩) (fun g hg => by rw [hbg]; exact h.gn g hg)

/-- what a loop's body finds -/
theorem mapS_passT {c : Cx} {m m' : Mem} {as bs : List AV} {vs : List Value} (hs : mapS passT m as = some (bs, m')) (h : MemOk c m) (hv : All2 (VL c) as vs) :
    ∃ c', Ghost c c' ∧ MemOk c' m' ∧ All2 (fun a v => VL c' a v ∧ tclean a = true) bs vs := by
  refine mapS_ok (P := fun c a v => VL c a v) (R := fun c a v => VL c a v ∧ tclean a = true) (fun c m a b m' v h1 h2 h3 => ?_) (fun _ _ _ _ x h => h.ext x) (fun _ _ _ _ x h => ⟨h.1.ext x, h.2⟩) as vs bs c m m' hs h hv
  unfold passT at h1
  split at h1
  · rename_i p hp
    obtain ⟨b0, m0⟩ := p
    simp only [Option.some.injEq, Prod.mk.injEq] at h1
    obtain ⟨rfl, rfl⟩ := h1
    obtain ⟨c', g, k, q1, q2⟩ := pass_ok hp h2 h3
    exact ⟨c', g, k, q1, by cases b0 <;> first | rfl | exact q2⟩
  · simp only [Option.some.injEq, Prod.mk.injEq] at h1
    obtain ⟨rfl, rfl⟩ := h1
    exact ⟨c, .refl _, h2, .dead v, rfl⟩

theorem setP_ok {c : Cx} : ∀ (ps : List (Nat × AV)) (vs : List Value) (ts : List AV) (tv : Array Value) (qs : List Nat), All2 (VL c) ts tv.toList → All2 (fun (p : Nat × AV) v => VL c p.2 v) ps vs → qs = ps.map (·.1) →
    All2 (VL c) (ps.foldl (fun t p => t.set p.1 p.2) ts) ((qs.zip vs).foldl (fun t (p : Nat × Value) => t.setIfInBounds p.1 p.2) tv).toList
  | [], [], ts, tv, qs, h, _, e => by subst e; exact h
  | p :: ps, v :: vs, ts, tv, qs, h, hp, e => by
    subst e
    simp only [List.map_cons, List.zip_cons_cons, List.foldl_cons]
    refine setP_ok ps vs _ _ _ ?_ hp.2 rfl
    rw [Array.toList_setIfInBounds]
    exact All2.set _ h hp.1
  | [], _ :: _, _, _, _, _, h, _ => h.elim
  | _ :: _, [], _, _, _, _, h, _ => h.elim

end Go.Eng
end
