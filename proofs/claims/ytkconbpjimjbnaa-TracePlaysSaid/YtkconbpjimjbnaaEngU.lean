/- Append, as the evaluator has it. -/
import Derived.Test.YtkconbpjimjbnaaEngS
namespace Go.Eng
open Go Go.RowKit

theorem append_none {P : Program} {T : Tab} {c : Cx} (hT : TabOk P T) {t t2 e ty : TypeId} {te : TI} (hu : P.underlying t = some (.slice e)) (hte : T e = some te) (h2 : (isSlT T t2 || isStrT T t2) = true)
    {u : Value} {nv : List Value} (hn : News P c te.size [] u nv) {a : Option Addr} {len cap : Nat} (hcap : len ≤ cap) :
    (Builtin.append_ #[t, t2] ty #[.slice a len cap, u]).run P c.w = .ok (.slice a len cap) c.w := by
  obtain ⟨ie, dse, z, fe⟩ := hT.facts hte
  have hint : (∃ e2, P.underlying t2 = some (.slice e2)) ∨ P.underlying t2 = some .string := by
    simp only [Bool.or_eq_true] at h2
    rcases h2 with h2 | h2
    · obtain ⟨e2, hk⟩ := isSlT_some h2
      exact .inl ⟨_, kindT_slice hT hk⟩
    · exact .inr (kindT_str hT (isStrT_some h2))
  have hnv : nv = [] := by
    have := hn.len
    simpa using this
  subst hnv
  have hl : ∀ w, (Builtin.lenOf u).run P w = .ok 0 w := hn.lenOf
  have hc : ∀ w, w.heap = c.w.heap → (Builtin.firstCells te.size 0 u).run P w = .ok #[] w := hn.cells
  rcases hint with ⟨e2, hd2⟩ | hd2
  all_goals
    simp only [Builtin.append_, List.getElem?_toArray, List.getElem?_cons_zero, List.getElem?_cons_succ, Sem.run_bind, run_underlying hu, run_underlying hd2, fe.sizeOf, Result.andThen_ok, Sem.run_pure, Bool.false_eq_true, if_false, hl, Nat.add_zero, if_pos hcap,
      Bool.not_false, if_true, hc c.w rfl]
    cases a with
    | none => rfl
    | some a => rfl

theorem list_nil_val {c : Cx} {sz : Nat} {v : Value} (h : VL c (.dat (.list .nil sz [])) v) : v = .slice none 0 0 := by
  cases h with
  | dat h =>
    cases h with
    | nil => rfl
    | void _ _ hk => exact absurd rfl hk
    | list _ _ _ _ _ _ _ hk _ => exact absurd rfl hk

/-- a row that an append has laid goes into memory -/
theorem Apd.fresh {c c' : Cx} {m : Mem} {fresh sz : Nat} {zs : Row} {md : Mode} {v : Value} (hm : MemOk c m) (hf : m.L[fresh]? = some none) (h : ∀ who, Apd c c' who fresh sz zs md 0 v) : MemOk c' (m.set (.loc fresh) (.row md sz zs)) := by
  have h0 := h (.gobj 0)
  refine hm.fresh hf h0.ext h0.wf h0.ep h0.bl h0.bg (fun who => ?_) h0.row
  by_cases hw : who = .gobj 0
  · exact (h (.gobj 1)).same who (by rw [hw]; simp)
  · exact h0.same who hw

/-- what was there, as the machine reads it -/
theorem olds_ok {P : Program} {c : Cx} {b o sz cap : Nat} {xs : Row} {vs : List Value} (hc : Cells c b o sz xs vs) :
    (∀ w, w.heap = c.w.heap → (Builtin.firstCells sz xs.length (.slice (some ⟨b, o, none⟩) xs.length cap)).run P w = .ok vs.toArray w) ∧ RowC c sz xs vs.toArray := by
  refine ⟨fun w hw => run_firstCells_some (P := P) w sz xs.length ⟨b, o, none⟩ xs.length cap vs hc.len (fun j v hj => ?_), ⟨hc.hsz, fun k x j d h1 h2 => ?_⟩⟩
  · rw [add_off]
    have := hc.cell j v hj
    simpa [World.cell?, hw] using this
  · obtain ⟨v, z1, z2⟩ := hc.rd k x j d h1 h2
    exact ⟨v, by rw [List.getElem?_toArray]; exact z1, z2⟩

/-- the row in cell j of g is let go -/
theorem drop_row {c : Cx} {m : Mem} {g j : Nat} {cs : List AV} {a : AV} (h : MemOk c m) (hg : m.G[g]? = some (.obj cs)) (hj : cs[j]? = some a) : MemOk c (m.setRow g j .dead) :=
  h.setRow hg hj (.refl _) h.wf rfl rfl rfl (fun _ _ => .refl _ _) rfl (fun _ v _ _ _ => .dead v)

theorem GOk.frame_but {c c' : Cx} {g j0 : Nat} {cs : List AV} (x : Ext c c') (s : Same c c' (.gobj g)) (sr : ∀ j, j ≠ j0 → Same c c' (.grow g j)) (hd : cs[j0]? = some .dead) (h : GOk c g (.obj cs)) : GOk c' g (.obj cs) := by
  obtain ⟨b, cur, ty, h1, h2, h3, h4, h5, h6⟩ := h
  obtain ⟨s1, s2, s3⟩ := s b h3
  refine ⟨b, cur, ty, x.bg _ _ h1, s1.trans h2, s2, s3.trans h4, h5, fun j a ha => ?_⟩
  obtain ⟨k1, v, k2, k3⟩ := h6 j a ha
  refine ⟨k1, v, k2, ?_⟩
  by_cases hj : j = j0
  · subst hj
    rw [hd] at ha
    injection ha with ha
    subst ha
    exact .dead v
  · exact k3.frame x (sr j hj)

theorem Apd.two {c c' : Cx} {m : Mem} {i fresh sz : Nat} {zs : Row} {md : Mode} {v : Value} {e0 e' : Ent} (z2 : Apd c c' (.lent i) fresh sz zs md 0 v) (hm : MemOk c m) (hi : m.L[i]? = some (some e0)) (hf : m.L[fresh]? = some none)
    (he : EOk c' i e') : MemOk c' ((m.set (.loc i) e').set (.loc fresh) (.row md sz zs)) := by
  have hne : i ≠ fresh := fun e => by rw [e, hf] at hi; cases hi
  have hil := (List.getElem?_eq_some_iff.1 hi).1
  have hfl := (List.getElem?_eq_some_iff.1 hf).1
  refine hm.of z2.ext z2.wf (by rw [z2.ep]; exact hm.ep) (fun k e hk => ?_) (fun k hk => ?_) (fun g e hg => ?_) (fun g hg => by rw [z2.bg]; exact hm.gn g hg)
  · simp only [Mem.set] at hk
    rw [set_get] at hk
    split at hk
    · rename_i h1
      obtain ⟨rfl, _⟩ := h1
      simp only [Option.some.injEq] at hk
      subst hk
      exact .inr z2.row
    · rename_i h1
      rw [set_get] at hk
      split at hk
      · rename_i h3
        obtain ⟨rfl, _⟩ := h3
        simp only [Option.some.injEq] at hk
        subst hk
        exact .inr he
      · rename_i h3
        exact .inl ⟨hk, z2.same _ (by simp; intro e; exact h3 ⟨e.symm, hil⟩)⟩
  · simp only [Mem.set, List.length_set] at hk
    rw [set_get] at hk
    split at hk
    · rename_i h1
      rcases hk with hk | hk
      · cases hk
      · obtain ⟨rfl, _⟩ := h1
        omega
    · rename_i h1
      rw [set_get] at hk
      split at hk
      · rename_i h3
        obtain ⟨rfl, _⟩ := h3
        rcases hk with hk | hk
        · cases hk
        · omega
      · have hkf : k ≠ fresh := fun e => h1 ⟨e.symm, by simpa using hfl⟩
        rw [z2.bl k hkf]
        exact hm.ln k hk
  · exact .inl ⟨hg, z2.same _ (by simp), fun j => z2.same _ (by simp)⟩

theorem append_ok {P : Program} {T : Tab} {c : Cx} {m m' : Mem} (hT : TabOk P T) (hm : MemOk c m) {fresh : Nat} (hf : m.L[fresh]? = some none) {t t2 ty : TypeId} {X Y res : AV} {v u : Value}
    (h : append T m fresh t t2 X Y = some (res, m')) (hx : VL c X v) (hy : VL c Y u) : Does P c (Builtin.append_ #[t, t2] ty #[v, u]) m' res := by
  unfold append at h
  split at h
  · rename_i ti hti
    split at h
    · rename_i e he
      have hund : P.underlying t = some (.slice e) := kindT_slice hT (by simp only [kindT, hti, he])
      split at h
      · rename_i te hte
        split at h
        · rename_i hcond
          obtain ⟨hc1, hc2, hc3⟩ := hcond
          split at h
          · rename_i ys hys
            obtain ⟨nv, hn⟩ := news_ok hm hys hy
            split at h
            · -- nil
              rename_i sz0
              have := list_nil_val hx
              subst this
              dsimp only at h
              split at h
              · rename_i hb
                obtain ⟨hb1, hb2⟩ := hb
                split at h
                · simp only [Option.some.injEq, Prod.mk.injEq] at h
                  obtain ⟨rfl, rfl⟩ := h
                  exact ⟨c, _, append_none hT hund hte hc3 hn (Nat.le_refl _), .refl _, hm, .dat (.nil _)⟩
                · rename_i hne
                  simp only [Option.some.injEq, Prod.mk.injEq] at h
                  obtain ⟨rfl, rfl⟩ := h
                  have hpos : 0 < ys.length := List.length_pos_iff.2 hne
                  obtain ⟨c', v, z1, z2⟩ := append_new (ty := ty) (xs := []) (olds := []) (a := none) (cap := 0) (md := .excl) hT hm hund hte hc3 hn hf (by simp) (fun w _ => run_firstCells_none w _ _ _ _) (by simp) ⟨by simp, by simp⟩ (by simp) (by simpa using hpos) hc2 0 (by simpa using hb1) (by simpa using hb2)
                  exact ⟨c', v, z1, (z2 (.gobj 0)).ext, Apd.fresh hm hf z2, by simpa using (z2 (.gobj 0)).val⟩
              · cases h
            · -- a list that is as long as its room
              rename_i sz xs
              dsimp only at h
              split at h
              · rename_i hb
                obtain ⟨hsz, hb1, hb2⟩ := hb
                subst hsz
                cases hx with
                | dat hd =>
                  have hx0 : VL c (.dat (.list .full te.size xs)) v := .dat hd
                  cases hd with
                  | void _ ad hk =>
                    split at h
                    · simp only [Option.some.injEq, Prod.mk.injEq] at h
                      obtain ⟨rfl, rfl⟩ := h
                      exact ⟨c, _, append_none hT hund hte hc3 hn (Nat.le_refl _), .refl _, hm, hx0⟩
                    · rename_i hne
                      simp only [Option.some.injEq, Prod.mk.injEq] at h
                      obtain ⟨rfl, rfl⟩ := h
                      have hpos : 0 < ys.length := List.length_pos_iff.2 hne
                      obtain ⟨c', v, z1, z2⟩ := append_new (ty := ty) (xs := []) (olds := []) (a := some ad) (cap := 0) (md := .excl) hT hm hund hte hc3 hn hf (by simp) (fun w hw => run_firstCells_some (P := P) w te.size 0 ad 0 0 [] (by simp) (by simp)) (by simp) ⟨by simp, by simp⟩ (by simp) (by simpa using hpos) hc2 0 (by simpa using hb1) (by simpa using hb2)
                      exact ⟨c', v, z1, (z2 (.gobj 0)).ext, Apd.fresh hm hf z2, by simpa using (z2 (.gobj 0)).val⟩
                  | @list _ _ _ b o cap vs0 a1 a2 a3 a4 a5 a6 a7 a8 =>
                    have hcap := a8 rfl
                    subst hcap
                    split at h
                    · simp only [Option.some.injEq, Prod.mk.injEq] at h
                      obtain ⟨rfl, rfl⟩ := h
                      exact ⟨c, _, append_none hT hund hte hc3 hn (Nat.le_refl _), .refl _, hm, hx0⟩
                    · rename_i hne
                      simp only [Option.some.injEq, Prod.mk.injEq] at h
                      obtain ⟨rfl, rfl⟩ := h
                      have hpos : 0 < ys.length := List.length_pos_iff.2 hne
                      obtain ⟨ws, hw⟩ := cells_mk (c := c) (b := b) (o := o) a1 (fun k x j d h1 h2 => ⟨vs0 k j, a5 k x j d h1 h2, a6 k x j d h1 h2⟩)
                      obtain ⟨o1, o2⟩ := olds_ok (P := P) (cap := xs.length) hw
                      obtain ⟨c', v, z1, z2⟩ := append_new (ty := ty) (md := .excl) hT hm hund hte hc3 hn hf (by simp) o1 hw.len o2 hw.one (by omega) hc2 0 hb1 hb2
                      refine ⟨c', v, z1, (z2 (.gobj 0)).ext, Apd.fresh hm hf z2, ?_⟩
                      have := (z2 (.gobj 0)).val
                      rw [List.length_append] at this
                      exact this
              · cases h
            · -- a row of one's own
              rename_i full i sz off len
              dsimp only at h
              split at h
              · rename_i hsz
                split at h
                · rename_i md sz' xs hr
                  split at h
                  · rename_i hsz'
                    split at h
                    · rename_i hb
                      obtain ⟨hb0, hb1, hb2⟩ := hb
                      subst hsz' hsz
                      obtain ⟨hi, b, cap0, q1, q2, q3, q4, q5⟩ := sh_row hm hx hr
                      have hlen := sub_length xs off len q4
                      have hrd : rd m (.sh full i te.size off len) = some (false, te.size, (xs.drop off).take len) := by simp [rd, hr]
                      split at h
                      · rename_i hfull
                        subst hfull
                        obtain ⟨ad, cap, sty, sn, rfl, p1, p2, p3, p4, p5, p6⟩ := q5
                        have hcl := p5 rfl
                        subst hcl
                        split at h
                        · simp only [Option.some.injEq, Prod.mk.injEq] at h
                          obtain ⟨rfl, rfl⟩ := h
                          exact ⟨c, _, append_none hT hund hte hc3 hn (Nat.le_refl _), .refl _, hm, hx⟩
                        · rename_i hne
                          simp only [Option.some.injEq, Prod.mk.injEq] at h
                          obtain ⟨rfl, rfl⟩ := h
                          have hpos : 0 < ys.length := List.length_pos_iff.2 hne
                          rcases rd_ok hm hrd hx with ⟨hw, _⟩ | ⟨a, cap', vs, e1, hsp, _, hc⟩
                          · cases hw
                          · obtain ⟨b', o', sp⟩ := a
                            have hsp : sp = none := by
                              rcases hsp with h | ⟨_, _, _, h⟩
                              · exact h
                              · cases h
                            subst hsp
                            injection e1 with e1 e2 e3
                            injection e1 with e1
                            subst e1 e3
                            obtain ⟨o1, o2⟩ := olds_ok (P := P) (cap := cap) hc
                            obtain ⟨c', v, z1, z2⟩ := append_new (ty := ty) (md := .excl) hT hm hund hte hc3 hn hf (by simp) o1 hc.len o2 hc.one (by rw [hlen]; omega) hc2 0 (by rw [hlen]; exact hb1) (by rw [hlen]; exact hb2)
                            rw [hlen] at z1
                            refine ⟨c', v, z1, (z2 (.gobj 0)).ext, Apd.fresh hm hf z2, ?_⟩
                            have := (z2 (.gobj 0)).val
                            rw [List.length_append, hlen] at this
                            exact this
                      · rename_i hfull
                        split at h
                        · rename_i hin
                          obtain ⟨rfl, rfl, hmd⟩ := hin
                          simp only [Option.some.injEq, Prod.mk.injEq] at h
                          obtain ⟨rfl, rfl⟩ := h
                          have hrow : RowOk c (.lent i) b cap0 te.size xs md := by
                            cases md with
                            | ro => exact absurd rfl hmd
                            | own => exact q3
                            | excl => exact q3
                          obtain ⟨ad, cap, sty, sn, rfl, p1, p2, p3, p4, p5, p6⟩ := q5
                          have had : ad = ⟨b, 0, none⟩ := by
                            rcases p6 with p6 | ⟨_, _, p6, _⟩
                            · simpa using p6
                            · exact absurd rfl p6
                          subst had
                          obtain ⟨c', v, z1, z2⟩ := append_in (ty := ty) hT hm hund hte hc3 hn hf (who := .lent i) (fun g e => by cases e) hrow p2 p3 (fun ty n hs => by
                            rw [p1] at hs
                            simp only [Option.some.injEq, Prod.mk.injEq] at hs
                            rw [← hs.2, ← Nat.zero_add cap]; exact p4) 0 hb1 hb2
                          refine ⟨c', v, z1, z2.ext, z2.two hm hi hf ?_, by have := z2.val; rwa [List.length_append] at this⟩
                          cases md with
                          | ro => exact absurd rfl hmd
                          | own => exact ⟨b, cap0, z2.ext.bl _ _ q1, (z2.ext.rl _ _ q1).trans q2, hrow.rd.stay z2.ext.stay, hc2⟩
                          | excl => trivial
                        · cases h
                    · cases h
                  · cases h
                · cases h
              · cases h
            · -- a row in everybody's object
              rename_i full g j ep sz off len
              dsimp only at h
              split at h
              · rename_i hsz
                split at h
                · rename_i md sz' xs hr
                  split at h
                  · rename_i hsz'
                    split at h
                    · rename_i hb
                      obtain ⟨hb0, hb1, hb2⟩ := hb
                      subst hsz' hsz
                      obtain ⟨cs, b, cap0, hg, hj, q3, q4, q5, _⟩ := gh_row hm hx hr
                      have hlen := sub_length xs off len q4
                      have hrd : rd m (.gh full g j ep te.size off len) = some (false, te.size, (xs.drop off).take len) := by simp [rd, hr]
                      obtain ⟨ad, cap, sty, sn, rfl, p1, p2, p3, p4, p5, p6⟩ := q5
                      split at h
                      · rename_i hfull
                        subst hfull
                        have hcl := p5 rfl
                        subst hcl
                        split at h
                        · simp only [Option.some.injEq, Prod.mk.injEq] at h
                          obtain ⟨rfl, rfl⟩ := h
                          exact ⟨c, _, append_none hT hund hte hc3 hn (Nat.le_refl _), .refl _, hm, hx⟩
                        · rename_i hne
                          simp only [Option.some.injEq, Prod.mk.injEq] at h
                          obtain ⟨rfl, rfl⟩ := h
                          have hpos : 0 < ys.length := List.length_pos_iff.2 hne
                          rcases rd_ok hm hrd hx with ⟨hw, _⟩ | ⟨a, cap', vs, e1, hsp, _, hc⟩
                          · cases hw
                          · obtain ⟨b', o', sp⟩ := a
                            have hsp : sp = none := by
                              rcases hsp with h | ⟨_, _, _, h⟩
                              · exact h
                              · cases h
                            subst hsp
                            injection e1 with e1 e2 e3
                            injection e1 with e1
                            subst e1 e3
                            obtain ⟨o1, o2⟩ := olds_ok (P := P) (cap := cap) hc
                            obtain ⟨c', v, z1, z2⟩ := append_new (ty := ty) (md := .excl) hT hm hund hte hc3 hn hf (by simp) o1 hc.len o2 hc.one (by rw [hlen]; omega) hc2 0 (by rw [hlen]; exact hb1) (by rw [hlen]; exact hb2)
                            rw [hlen] at z1
                            refine ⟨c', v, z1, (z2 (.gobj 0)).ext, Apd.fresh hm hf z2, ?_⟩
                            have := (z2 (.gobj 0)).val
                            rw [List.length_append, hlen] at this
                            exact this
                      · rename_i hfull
                        split at h
                        · rename_i hin
                          obtain ⟨rfl, rfl, hmd⟩ := hin
                          simp only [Option.some.injEq, Prod.mk.injEq] at h
                          obtain ⟨rfl, rfl⟩ := h
                          have had : ad = ⟨b, 0, none⟩ := by
                            rcases p6 with p6 | ⟨_, _, p6, _⟩
                            · simpa using p6
                            · exact absurd rfl p6
                          subst had
                          obtain ⟨c', v, z1, z2⟩ := append_in (ty := ty) hT hm hund hte hc3 hn hf (who := .grow g j) (fun g e => by cases e) q3 p2 p3 (fun ty n hs => by
                            rw [p1] at hs
                            simp only [Option.some.injEq, Prod.mk.injEq] at hs
                            rw [← hs.2, ← Nat.zero_add cap]; exact p4) 1 hb1 hb2
                          have hm1 := drop_row hm hg hj
                          rw [mem_setRow hg] at hm1 ⊢
                          have hgl := (List.getElem?_eq_some_iff.1 hg).1
                          have hfl := (List.getElem?_eq_some_iff.1 hf).1
                          refine ⟨c', v, z1, z2.ext, ?_, by have := z2.val; rwa [List.length_append] at this⟩
                          refine hm1.of z2.ext z2.wf (by rw [z2.ep, hm.ep]; rfl) (fun k e hk => ?_) (fun k hk => ?_) (fun g' e hg' => ?_) (fun g' hg' => by rw [z2.bg]; exact hm1.gn g' hg')
                          · simp only [Mem.set, Mem.tick] at hk
                            rw [set_get] at hk
                            split at hk
                            · rename_i h1
                              obtain ⟨rfl, _⟩ := h1
                              simp only [Option.some.injEq] at hk
                              subst hk
                              exact .inr z2.row
                            · exact .inl ⟨hk, z2.same _ (by simp)⟩
                          · simp only [Mem.set, Mem.tick, List.length_set] at hk
                            rw [set_get] at hk
                            split at hk
                            · rcases hk with hk | hk
                              · cases hk
                              · omega
                            · rename_i h1
                              have hkf : k ≠ fresh := fun e => h1 ⟨e.symm, hfl⟩
                              rw [z2.bl k hkf]
                              exact hm1.ln k hk
                          · simp only [Mem.set, Mem.tick] at hg'
                            by_cases hgg : g' = g
                            · subst hgg
                              right
                              have hok := hm1.g g' e hg'
                              simp only [set_get, hgl, and_true, if_true, Option.some.injEq] at hg'
                              subst hg'
                              exact hok.frame_but z2.ext (z2.same _ (by simp)) (fun j' hj' => z2.same _ (by simpa using hj')) (by rw [set_get, if_pos ⟨rfl, (List.getElem?_eq_some_iff.1 hj).1⟩])
                            · exact .inl ⟨hg', z2.same _ (by simp), fun j' => z2.same _ (by simp [hgg])⟩
                        · cases h
                    · cases h
                  · cases h
                · cases h
              · cases h
            · cases h
          · cases h
        · cases h
      · cases h
    · cases h
  · cases h

end Go.Eng
