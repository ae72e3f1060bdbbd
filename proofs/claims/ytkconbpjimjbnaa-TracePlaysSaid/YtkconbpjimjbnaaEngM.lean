/- What is built, what is read out of memory. -/
import Derived.Test.YtkconbpjimjbnaaEngL
namespace Go.Eng
open Go Go.RowKit

theorem mapM_places {P : Program} {w : World} : ∀ (l : List Field), (∀ f ∈ l, ∃ j, P.info? f.type = some j) →
    (l.mapM (fun f => do pure (f.offset, ← sizeOf f.type)) : Sem (List (Nat × Nat))).run P w = .ok (l.map fun f => (f.offset, P.cellsOf f.type)) w
  | [], _ => rfl
  | f :: l, h => by
    obtain ⟨j, hj⟩ := h f (by simp)
    have ih := mapM_places (P := P) (w := w) l (fun g hg => h g (by simp [hg]))
    rw [List.mapM_cons]
    simp only [Sem.run_bind, run_sizeOf w hj, Result.andThen_ok, Sem.run_pure, ih, List.map_cons]

theorem build_ok {P : Program} {T : Tab} {c : Cx} (hT : TabOk P T) {t : TypeId} {ps : List (Nat × AV)} {qs : List (Nat × Value)} {res : AV} (h : build T t ps = some res)
    (hp : All2 (fun (p : Nat × AV) (q : Nat × Value) => p.1 = q.1 ∧ VL c p.2 q.2) ps qs) : RunsTo P c (Instr.build t qs.toArray) res := by
  unfold build at h
  split at h
  · rename_i ti hti
    obtain ⟨i, ds, z, f⟩ := hT.facts hti
    obtain ⟨hz, _⟩ := zerosOk_all2 (c := c) f.zeros
    have hk := f.kind
    split at h
    · rename_i fs hfs
      rw [hfs] at hk
      have : ∃ gs, ds = .struct gs ∧ fs = gs.toList.map fun g => (g.offset, g.type) := by
        cases ds <;> simp_all [kindOk]
      obtain ⟨gs, rfl, rfl⟩ := this
      cases hf : fillP (structPlace T (gs.toList.map fun g => (g.offset, g.type))) ti.zero ps with
      | none => rw [hf] at h; cases h
      | some cs =>
        rw [hf] at h
        simp only [Option.map_some, Option.some.injEq] at h
        subst h
        have hpl : ∀ i x, structPlace T (gs.toList.map fun g => (g.offset, g.type)) i = some x → ((gs.map fun f => (f.offset, P.cellsOf f.type))[i]?) = some x := by
          intro i x hx
          unfold structPlace at hx
          split at hx
          · rename_i off ft hg
            split at hx
            · rename_i ti' hti'
              injection hx with hx
              subst hx
              rw [List.getElem?_map] at hg
              cases hgi : gs.toList[i]? with
              | none => rw [hgi] at hg; cases hg
              | some g =>
                rw [hgi] at hg
                simp only [Option.map_some, Option.some.injEq, Prod.mk.injEq] at hg
                obtain ⟨rfl, rfl⟩ := hg
                obtain ⟨i', ds', z', f'⟩ := hT.facts hti'
                have : gs[i]? = some g := by simpa using hgi
                simp [this, Program.cellsOf, f'.info, f'.size]
            · cases hx
          · cases hx
        obtain ⟨vs', q1, q2, q3⟩ := fill_ok (place2 := fun i => (gs.map fun f => (f.offset, P.cellsOf f.type))[i]?) hpl ps qs ti.zero cs z.cells hf hz hp
        have hm : (gs.mapM (fun f => do pure (f.offset, ← sizeOf f.type)) : Sem (Array (Nat × Nat))).run P c.w = .ok (gs.map fun f => (f.offset, P.cellsOf f.type)) c.w := by
          rw [Array.mapM_eq_mapM_toList]
          simp only [Sem.run_map, mapM_places gs.toList (f.fields gs rfl), Result.andThen_ok]
          congr 1
          apply Array.ext'
          simp
        refine ⟨.agg vs', ?_, ?_⟩
        · simp only [Instr.build, Sem.run_bind, f.zeroValue, f.und, hm, Result.andThen_ok, q1, Sem.run_pure]
        · have := VL.all2' q2
          exact .agg this.1 this.2
    · rename_i n e he
      rw [he] at hk
      have : ds = .array n e := by cases ds <;> simp_all [kindOk]
      subst this
      split at h
      · rename_i sz hsz
        cases hf : fillP (fun i => some (i * sz, sz)) ti.zero ps with
        | none => rw [hf] at h; cases h
        | some cs =>
          rw [hf] at h
          simp only [Option.map_some, Option.some.injEq] at h
          subst h
          obtain ⟨vs', q1, q2, q3⟩ := fill_ok (place2 := fun i => some (i * sz, sz)) (fun _ _ h => h) ps qs ti.zero cs z.cells hf hz hp
          refine ⟨.agg vs', ?_, ?_⟩
          · simp only [Instr.build, Sem.run_bind, f.zeroValue, f.und, sizeT_run hT hsz, Result.andThen_ok, q1, Sem.run_pure]
          · have := VL.all2' q2
            exact .agg this.1 this.2
      · cases h
    · cases h
  · cases h

/-! ### reading -/

theorem loadVar_ok {P : Program} {t : TypeId} {ti : TI} {i : TypeInfo} {ds : TypeDesc} {z : Value} {w : World} (f : TyFacts P t ti i ds z) (b o : Nat) (vs : List Value) (hl : vs.length = ti.size)
    (hc : ∀ (j : Nat) (v : Value), vs[j]? = some v → w.cell? ⟨b, o + j, none⟩ = some v) (h1 : ti.k.isAgg = true ∨ vs.length = 1) : (loadVar t ⟨b, o, none⟩).run P w = .ok (valOf ti.k.isAgg vs) w := by
  unfold loadVar
  simp only [Sem.run_bind, f.isAgg, Result.andThen_ok]
  cases hk : ti.k.isAgg with
  | true =>
    have := run_loadCells_list (P := P) w ⟨b, o, none⟩ vs (fun j v hv => by rw [add_off]; exact hc j v hv)
    rw [hl] at this
    simp [f.sizeOf, this, valOf]
  | false =>
    have h1 : vs.length = 1 := by simpa [hk] using h1
    match vs, h1 with
    | [v], _ =>
      have := hc 0 v rfl
      simp only [Nat.add_zero] at this
      simp [this, valOf]

/-- the cells of an element, part of it read -/
theorem rowVal_ok {P : Program} {T : Tab} {c : Cx} (hT : TabOk P T) {t : TypeId} {ti : TI} (hti : T t = some ti) {b base off : Nat} {x : List D} {res : AV} (h : rowVal ti.k.isAgg x off ti.size = some res)
    (hc : ∀ (j : Nat) (d : D), x[j]? = some d → ∃ v, c.w.cell? ⟨b, base + j, none⟩ = some v ∧ RD c.w c.lv d v) : RunsTo P c (Instr.loadAt t (.pointer (some ⟨b, base + off, none⟩))) res := by
  obtain ⟨i, ds, z, f⟩ := hT.facts hti
  unfold rowVal at h
  split at h
  · rename_i hl
    -- the values
    have hv : ∃ vs : List Value, vs.length = ti.size ∧ (∀ (j : Nat) (v : Value), vs[j]? = some v → c.w.cell? ⟨b, base + off + j, none⟩ = some v) ∧ All2 (RD c.w c.lv) ((x.drop off).take ti.size) vs := by
      refine ⟨(List.range ti.size).map fun j => (c.w.cell? ⟨b, base + off + j, none⟩).getD default, by simp, fun j v hj => ?_, All2.of (by simp; omega) fun j d hd v hj => ?_⟩
      · rw [List.getElem?_map] at hj
        by_cases hjs : j < ti.size
        · rw [List.getElem?_range hjs] at hj
          simp only [Option.map_some, Option.some.injEq] at hj
          have hx : x[off + j]? = some x[off + j] := by simp
          obtain ⟨v', h1, h2⟩ := hc (off + j) _ hx
          have e : base + off + j = base + (off + j) := by omega
          rw [e, h1] at hj ⊢
          simpa using hj
        · rw [List.getElem?_eq_none (by simp; omega)] at hj; cases hj
      · rw [sub_get] at hd
        split at hd
        · rename_i hjs
          obtain ⟨v', h1, h2⟩ := hc (off + j) d hd
          rw [List.getElem?_map, List.getElem?_range hjs] at hj
          simp only [Option.map_some, Option.some.injEq] at hj
          have e : base + off + j = base + (off + j) := by omega
          rw [e, h1] at hj
          simp only [Option.getD_some] at hj
          rw [← hj]; exact h2
        · cases hd
    obtain ⟨vs, hlen, hcell, hall⟩ := hv
    have hrun : ∀ h1, (Instr.loadAt t (.pointer (some ⟨b, base + off, none⟩))).run P c.w = .ok (valOf ti.k.isAgg vs) c.w := fun h1 => by
      simp only [Instr.loadAt, Instr.sureAddr, Sem.run_bind, Sem.run_pure, Result.andThen_ok]
      exact loadVar_ok f b (base + off) vs hlen hcell h1
    cases hk : ti.k.isAgg with
    | true =>
      simp only [hk, if_true, Option.some.injEq] at h
      subst h
      refine ⟨_, hrun (.inl hk), ?_⟩
      simp only [hk, valOf, if_true]
      exact VL.aggL (All2.map AV.dat (fun d v h => VL.dat h) hall)
    | false =>
      simp only [hk, Bool.false_eq_true, if_false] at h
      split at h
      · rename_i d hd
        injection h with h
        subst h
        rw [hd] at hall
        match vs, hall with
        | [v], hall =>
          refine ⟨_, hrun (.inr rfl), ?_⟩
          simp only [hk, valOf, Bool.false_eq_true, if_false, List.headD_cons]
          exact .dat hall.1
      · cases h
  · cases h

theorem outCell_ok {c : Cx} {g j : Nat} {a b : AV} {v : Value} (h : outCell a = some b) (hv : CL c g j a v) : VL c b v := by
  by_cases hr : ∃ md sz xs, a = .rowc md sz xs
  · obtain ⟨md, sz, xs, rfl⟩ := hr
    obtain ⟨b', cap, rfl, hr⟩ := hv
    cases md with
    | excl => simp [outCell] at h
    | own =>
      simp only [outCell, Option.some.injEq] at h
      subst h
      exact .dat hr.rd
    | ro => exact absurd rfl hr.md
  · have h1 : outCell a = some a := by
      cases a <;> first
        | rfl
        | exact absurd ⟨_, _, _, rfl⟩ hr
    have h2 : VL c a v := by
      cases a <;> first
        | exact hv
        | exact absurd ⟨_, _, _, rfl⟩ hr
    rw [h1] at h
    injection h with h
    rw [← h]; exact h2

theorem outCells_ok {c : Cx} : ∀ (as bs : List AV) (vs : List Value), outCells as = some bs → All2 (fun a v => ∃ g j, CL c g j a v) as vs → All2 (VL c) bs vs
  | [], bs, [], h, _ => by
    simp only [outCells, Option.some.injEq] at h
    subst h; trivial
  | a :: r, bs, v :: s, h, hv => by
    simp only [outCells] at h
    split at h
    · rename_i b hb
      split at h
      · rename_i bs' hbs
        injection h with h
        subst h
        obtain ⟨g, j, hcl⟩ := hv.1
        exact ⟨outCell_ok hb hcl, outCells_ok r bs' s hbs hv.2⟩
      · cases h
    · cases h
  | [], _, _ :: _, _, h => h.elim
  | _ :: _, _, [], _, h => h.elim

theorem CL.of_vl' {c : Cx} {g j : Nat} {a : AV} {v : Value} (h : VL c a v) : CL c g j a v := by
  cases a <;> first
    | exact h
    | cases h


def CLo (c : Cx) (wh : Option (Nat × Nat)) (j : Nat) (a : AV) (v : Value) : Prop :=
  match wh with
  | some (g, _) => CL c g j a v
  | none => VL c a v

theorem asVal_ok {P : Program} {T : Tab} {c : Cx} {m : Mem} (hT : TabOk P T) {t : TypeId} {ti : TI} (hti : T t = some ti) {b off : Nat} {cs : List AV} {cur : Array Value} {res : AV} {wh : Option (Nat × Nat)}
    (hep : c.ep = m.ep) (hlen : cs.length = cur.size) (h : asVal m wh ti.k.isAgg ((cs.drop off).take ti.size) = some res) (hn : off + ti.size ≤ cs.length)
    (hcell : ∀ j, c.w.cell? ⟨b, j, none⟩ = cur[j]?)
    (hcl : ∀ (j : Nat) (a : AV), cs[j]? = some a → ∃ v, cur[j]? = some v ∧ CLo c wh j a v)
    (hwh : ∀ g j, wh = some (g, j) → j = off ∧ c.bg g = some b) :
    RunsTo P c (Instr.loadAt t (.pointer (some ⟨b, off, none⟩))) res := by
  obtain ⟨i, ds, z, f⟩ := hT.facts hti
  let vs : List Value := (cur.toList.drop off).take ti.size
  have hvl : vs.length = ti.size := by simp [vs]; omega
  have hvc : ∀ (j : Nat) (v : Value), vs[j]? = some v → c.w.cell? ⟨b, off + j, none⟩ = some v := by
    intro j v hj
    simp only [vs] at hj
    rw [sub_get] at hj
    split at hj
    · rw [hcell]; simpa using hj
    · cases hj
  have hall : All2 (fun a v => ∃ g j, CL c g j a v) ((cs.drop off).take ti.size) vs := by
    refine All2.of (by rw [hvl]; simp; omega) fun j a ha v hv => ?_
    simp only [vs] at hv
    rw [sub_get] at ha hv
    split at ha
    · rename_i hjs
      rw [if_pos hjs] at hv
      obtain ⟨v', h1, h2⟩ := hcl (off + j) a ha
      have hv' : cur[off + j]? = some v := by simpa using hv
      rw [h1] at hv'
      injection hv' with hv'
      subst hv'
      cases wh with
      | none => exact ⟨0, 0, .of_vl' h2⟩
      | some x => exact ⟨x.1, off + j, h2⟩
    · cases ha
  have hrun : ∀ h1, (Instr.loadAt t (.pointer (some ⟨b, off, none⟩))).run P c.w = .ok (valOf ti.k.isAgg vs) c.w := fun h1 => by
    simp only [Instr.loadAt, Instr.sureAddr, Sem.run_bind, Sem.run_pure, Result.andThen_ok]
    exact loadVar_ok f b off vs hvl hvc h1
  unfold asVal at h
  split at h
  · rename_i hk
    split at h
    · rename_i l hl
      injection h with h
      subst h
      refine ⟨_, hrun (.inl hk), ?_⟩
      simp only [hk, valOf, if_true]
      exact VL.aggL (outCells_ok _ _ _ hl hall)
    · cases h
  · rename_i hk
    have hk : ti.k.isAgg = false := by simpa using hk
    split at h
    · rename_i md sz xs hcs
      rw [hcs] at hall
      have h1 : ti.size = 1 := by
        have := congrArg List.length hcs
        simp at this; omega
      split at h
      · rename_i g j
        obtain ⟨rfl, hbg⟩ := hwh g j rfl
        injection h with h
        subst h
        have hj : cs[j]? = some (.rowc md sz xs) := by
          have := sub_get cs j ti.size 0
          rw [hcs, if_pos (by omega)] at this
          simpa using this.symm
        obtain ⟨v, h2, h3⟩ := hcl j _ hj
        obtain ⟨b', cap, rfl, hr⟩ := h3
        have hvs : vs = [.slice (some ⟨b', 0, none⟩) xs.length cap] := by
          have : vs[0]? = some (.slice (some ⟨b', 0, none⟩) xs.length cap) := by
            simp only [vs]; rw [sub_get, if_pos (by omega)]; simpa using h2
          have hvl1 : vs.length = 1 := by rw [hvl, h1]
          obtain ⟨x, hx⟩ := List.length_eq_one_iff.1 hvl1
          rw [hx] at this ⊢
          simpa using this
        refine ⟨_, hrun (.inr (by rw [hvl, h1])), ?_⟩
        simp only [hk, valOf, Bool.false_eq_true, if_false, hvs, List.headD_cons]
        obtain ⟨⟨cur2, ty, fz, k1, k2, k3, k4, k4'⟩, k5, k6, k7, k8, k9, k10⟩ := hr
        refine .gh k5 k6 (by simp) (by rw [hep]; exact Nat.le_refl _) (fun _ => ⟨b, b', xs.length, cap, hbg, by rw [hcell]; exact h2, by omega, ?_⟩)
        exact ⟨⟨b', 0, none⟩, cap, ty, cur2.size, rfl, shape_of k1, k5, k6, by rw [Nat.zero_add]; exact k3, by simp, .inl (by simp)⟩
      · cases h
    · rename_i a hna hcs
      injection h with h
      subst h
      rw [hcs] at hall
      have h1 : ti.size = 1 := by
        have := congrArg List.length hcs
        simp at this; omega
      match hvv : vs, hall with
      | [v], hall =>
        obtain ⟨g, j, hcl'⟩ := hall.1
        have h2 : VL c a v := by
          unfold CL at hcl'
          split at hcl'
          · exact absurd rfl (hna _ _ _)
          · exact hcl'
        have hrun' := hrun (.inr (by rw [hvl, h1]))
        refine ⟨_, hrun', ?_⟩
        simp only [hk, valOf, Bool.false_eq_true, if_false, List.headD_cons]
        exact h2
    · cases h

end Go.Eng
