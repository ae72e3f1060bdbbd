/- Reading out of memory; conversions that lay nothing. -/
import Derived.Test.YtkbbgehnooncoaaGreatDoorWp11
import Derived.Laws.BytesArg
section
namespace Go.Eng
open Go Go.RowKit
variable [Inhabited Pkg]
set_option linter.unusedSectionVars false

theorem RowC.elem {c : Cx} {sz : Nat} {xs : Row} {cur : Array Value} {b : Nat} {ty : TypeId} {fz : Nat × Nat} (h : RowC c sz xs cur) (hh : c.w.heap[b]? = some (.cells cur ty fz)) {k : Nat} {x : List D} (hx : xs[k]? = some x) :
    ∀ (j : Nat) (d : D), x[j]? = some d → ∃ v, c.w.cell? ⟨b, k * sz + j, none⟩ = some v ∧ RD c.w c.lv d v := by
  intro j d hd
  obtain ⟨v, h1, h2⟩ := h.hc k x j d hx hd
  exact ⟨v, by rw [cell_of hh]; exact h1, h2⟩

theorem RD.elem {w : World} {lv : Nat → Nat} {kk : LK} {sz : Nat} {xs : Row} {b o len cap : Nat} (h : RD w lv (.list kk sz xs) (.slice (some ⟨b, o, none⟩) len cap)) {k : Nat} {x : List D} (hx : xs[k]? = some x) :
    ∀ (j : Nat) (d : D), x[j]? = some d → ∃ v, w.cell? ⟨b, o + (k * sz + j), none⟩ = some v ∧ RD w lv d v := by
  intro j d hd
  cases h with
  | void _ _ _ => simp at hx
  | list vs a1 a2 a3 a4 a5 a6 a7 a8 => exact ⟨vs k j, a5 k x j d hx hd, a6 k x j d hx hd⟩

theorem RowE.elem {c : Cx} {i b cap sz : Nat} {xs : Row} {md : Mode} (h : RowE c i b cap sz xs md) {k : Nat} {x : List D} (hx : xs[k]? = some x) :
    ∀ (j : Nat) (d : D), x[j]? = some d → ∃ v, c.w.cell? ⟨b, k * sz + j, none⟩ = some v ∧ RD c.w c.lv d v := by
  cases md with
  | ro =>
    intro j d hd
    have := RD.elem h.1 hx j d hd
    simpa using this
  | own => obtain ⟨⟨cur, ty, fz, k1, k2, k3, k4, k4'⟩, _⟩ := h; exact k4.elem k1 hx
  | excl => obtain ⟨⟨cur, ty, fz, k1, k2, k3, k4, k4'⟩, _⟩ := h; exact k4.elem k1 hx

theorem RowOk.elem {c : Cx} {who : Who} {b cap sz : Nat} {xs : Row} {md : Mode} (h : RowOk c who b cap sz xs md) {k : Nat} {x : List D} (hx : xs[k]? = some x) :
    ∀ (j : Nat) (d : D), x[j]? = some d → ∃ v, c.w.cell? ⟨b, k * sz + j, none⟩ = some v ∧ RD c.w c.lv d v := by
  obtain ⟨⟨cur, ty, fz, k1, k2, k3, k4, k4'⟩, _⟩ := h
  exact k4.elem k1 hx

theorem ent_of {m : Mem} {r : Ref} {e : Ent} (h : m.ent r = some e) : (∃ i, r = .loc i ∧ m.res r = .loc i ∧ m.L[i]? = some (some e)) ∨ (∃ g, m.res r = .glob g ∧ m.G[g]? = some e) := by
  unfold Mem.ent at h
  cases hr : m.res r with
  | loc i =>
    rw [hr] at h
    exact .inl ⟨i, res_loc hr, rfl, get_loc h⟩
  | glob g =>
    rw [hr] at h
    exact .inr ⟨g, rfl, h⟩

theorem gept_row {c : Cx} {m : Mem} {g j e sz k off : Nat} {v : Value} {md : Mode} {xs : Row} (h : MemOk c m) (hv : VL c (.gept g j e sz k off) v) (hr : m.rowAt g j e = some (md, sz, xs)) :
    ∃ cs b cap, m.G[g]? = some (.obj cs) ∧ cs[j]? = some (.rowc md sz xs) ∧ RowOk c (.grow g j) b cap sz xs md ∧ v = .pointer (some ⟨b, k * sz + off, none⟩) ∧
      (∀ bo v', c.bg g = some bo → c.w.cell? ⟨bo, j, none⟩ = some v' → v' = .slice (some ⟨b, 0, none⟩) xs.length cap) := by
  obtain ⟨he, cs, hg, hj⟩ := rowAt_some hr
  cases hv with
  | gept he' h' =>
    obtain ⟨bo, l0, c0, h1, h2, rfl⟩ := h' (by rw [h.ep]; exact he)
    obtain ⟨b2, cur, ty, k1, k2, k3, k4, k5, k6⟩ := h.g _ _ hg
    obtain ⟨q1, v2, q2, q3⟩ := k6 _ _ hj
    obtain ⟨b3, cap, q4, q5⟩ := q3
    have : b2 = bo := by rw [h1] at k1; injection k1 with k1; exact k1.symm
    subst this
    rw [cell_of k2, q2] at h2
    injection h2 with h2
    rw [q4] at h2
    injection h2 with h2 h2l h2c
    injection h2 with h2
    injection h2 with h2
    subst h2
    refine ⟨cs, _, cap, hg, hj, q5, rfl, fun bo' v' z1 z2 => ?_⟩
    rw [h1] at z1
    injection z1 with z1
    subst z1
    rw [cell_of k2, q2] at z2
    injection z2 with z2
    rw [← z2, q4]

theorem load_ok {P : Program} {T : Tab} {c : Cx} {m : Mem} (hT : TabOk P T) (hm : MemOk c m) {t : TypeId} {X res : AV} {v : Value} (h : load T m t X = some res) (hx : VL c X v) : RunsTo P c (Instr.loadAt t v) res := by
  unfold load at h
  split at h
  · rename_i ti hti
    split at h
    · rename_i r off
      split at h
      · rename_i cs he
        split at h
        · rename_i l hl
          unfold cellsAt at hl
          split at hl
          · rename_i hn
            injection hl with hl
            subst hl
            rcases ent_of he with ⟨i, rfl, hres, hi⟩ | ⟨g, hres, hg⟩
            · rw [hres] at h
              obtain ⟨b, cur, ty, k1, k2, k3, k4, k5⟩ := hm.l _ _ hi
              cases hx with
              | ptrl hb =>
                have : some b = some _ := k1.symm.trans hb
                injection this with this
                subst this
                refine asVal_ok hT hti (cur := cur) (wh := none) hm.ep k5.1 h hn (fun j => cell_of k2 j) (fun j a ha => k5.2 j a ha) (fun g j e => by cases e)
            · rw [hres] at h
              have hx' := res_glob hm hres hx
              obtain ⟨b, cur, ty, k1, k2, k3, k4, k5, k6⟩ := hm.g _ _ hg
              cases hx' with
              | ptrg hb =>
                have : some b = some _ := k1.symm.trans hb
                injection this with this
                subst this
                exact asVal_ok hT hti (cur := cur) (wh := some (g, off)) hm.ep k5 h hn (fun j => cell_of k2 j) (fun j a ha => (k6 j a ha).2) (fun g' j' e => by cases e; exact ⟨rfl, k1⟩)
          · cases hl
        · cases h
      · cases h
    · split at h
      · rename_i md sz' xs hr
        split at h
        · rename_i hsz
          subst hsz
          split at h
          · rename_i x hxk
            cases hx with
            | ept hb =>
              have hi := get_loc hr
              obtain ⟨b, cap, k1, k2, k3⟩ := hm.l _ _ hi
              have : some b = some _ := k1.symm.trans hb
              injection this with this
              subst this
              exact rowVal_ok hT hti h (k3.elem hxk)
          · cases h
        · cases h
      · cases h
    · split at h
      · rename_i md sz' xs hr
        split at h
        · rename_i hsz
          subst hsz
          split at h
          · rename_i x hxk
            obtain ⟨cs, b, cap, z1, z2, z3, rfl, z4⟩ := gept_row hm hx hr
            exact rowVal_ok hT hti h (z3.elem hxk)
          · cases h
        · cases h
      · cases h
    · split at h
      · rename_i x hxk
        cases hx with
        | dpt hd =>
          have := rowVal_ok (base := _) hT hti h (fun j d hj => by
            have := hd.elem hxk j d hj
            rw [← Nat.add_assoc] at this
            exact this)
          rw [Nat.add_assoc] at this
          exact this
      · cases h
    · cases h
  · cases h


/-! ### the elements of a list, as the machine reads them -/

/-- cells that lie one behind the other, and what they read as -/
structure Cells (c : Cx) (b o : Nat) (sz : Nat) (xs : Row) (vs : List Value) : Prop where
  len : vs.length = xs.length * sz
  hsz : ∀ x ∈ xs, x.length = sz
  cell : ∀ (j : Nat) (v : Value), vs[j]? = some v → c.w.cell? ⟨b, o + j, none⟩ = some v
  rd : ∀ k x j d, xs[k]? = some x → x[j]? = some d → ∃ v, vs[k * sz + j]? = some v ∧ RD c.w c.lv d v

theorem cells_mk {c : Cx} {b o sz : Nat} {xs : Row} (hsz : ∀ x ∈ xs, x.length = sz)
    (h : ∀ k x j d, xs[k]? = some x → x[j]? = some d → ∃ v, c.w.cell? ⟨b, o + (k * sz + j), none⟩ = some v ∧ RD c.w c.lv d v) : ∃ vs, Cells c b o sz xs vs := by
  have key : ∀ p, p < xs.length * sz → ∃ k x j d, xs[k]? = some x ∧ x[j]? = some d ∧ p = k * sz + j := by
    intro p hp
    have hs : 0 < sz := by
      rcases Nat.eq_zero_or_pos sz with h0 | h0
      · rw [h0, Nat.mul_zero] at hp; omega
      · exact h0
    have hk : p / sz < xs.length := (Nat.div_lt_iff_lt_mul hs).2 hp
    have hx : xs[p / sz]? = some xs[p / sz] := by simp
    have hl := hsz _ (List.mem_of_getElem? hx)
    have hj : p % sz < (xs[p / sz]).length := by rw [hl]; exact Nat.mod_lt _ hs
    exact ⟨p / sz, _, p % sz, (xs[p / sz])[p % sz], hx, by simp, (Nat.div_add_mod' p sz).symm⟩
  refine ⟨(List.range (xs.length * sz)).map fun p => (c.w.cell? ⟨b, o + p, none⟩).getD default, by simp, hsz, fun j v hj => ?_, fun k x j d hx hd => ?_⟩
  · rw [List.getElem?_map] at hj
    by_cases hjs : j < xs.length * sz
    · rw [List.getElem?_range hjs] at hj
      simp only [Option.map_some, Option.some.injEq] at hj
      obtain ⟨k, x, j', d, h1, h2, rfl⟩ := key j hjs
      obtain ⟨v', h3, h4⟩ := h k x j' d h1 h2
      rw [h3] at hj ⊢
      simpa using hj
    · rw [List.getElem?_eq_none (by simp; omega)] at hj; cases hj
  · obtain ⟨v', h3, h4⟩ := h k x j d hx hd
    refine ⟨v', ?_, h4⟩
    rw [List.getElem?_map, List.getElem?_range (idx_lt hsz hx hd)]
    simp [h3]

theorem Cells.one {c : Cx} {b o sz : Nat} {xs : Row} {vs : List Value} (h : Cells c b o sz xs vs) : ∀ v ∈ vs, v.oneCell' = true := by
  intro v hv
  obtain ⟨p, hp⟩ := List.getElem?_of_mem hv
  have hp' := (List.getElem?_eq_some_iff.1 hp).1
  rw [h.len] at hp'
  have hs : 0 < sz := by
    rcases Nat.eq_zero_or_pos sz with h0 | h0
    · rw [h0, Nat.mul_zero] at hp'; omega
    · exact h0
  have hk : p / sz < xs.length := (Nat.div_lt_iff_lt_mul hs).2 hp'
  have hx : xs[p / sz]? = some xs[p / sz] := by simp
  have hl := h.hsz _ (List.mem_of_getElem? hx)
  have hj : p % sz < (xs[p / sz]).length := by rw [hl]; exact Nat.mod_lt _ hs
  obtain ⟨v', h1, h2⟩ := h.rd (p / sz) (xs[p / sz]) (p % sz) ((xs[p / sz])[p % sz]) hx (by simp)
  have e : p / sz * sz + p % sz = p := Nat.div_add_mod' p sz
  rw [e, hp] at h1
  injection h1 with h1
  rw [h1]; exact h2.oneCell

/-- What a list's value leads to. -/
theorem rd_ok {c : Cx} {m : Mem} (hm : MemOk c m) {X : AV} {v : Value} {n : Bool} {sz : Nat} {xs : Row} (h : rd m X = some (n, sz, xs)) (hx : VL c X v) :
    (n = true ∧ xs = [] ∧ v = .slice none 0 0) ∨ ∃ a cap vs, v = .slice (some a) xs.length cap ∧ (a.spot = none ∨ (xs = [] ∧ ∃ k s, X = .dat (.list k s []))) ∧ xs.length ≤ cap ∧ Cells c a.block a.off sz xs vs := by
  unfold rd at h
  split at h
  · rename_i n' sz' xs'
    simp only [Option.some.injEq, Prod.mk.injEq] at h
    obtain ⟨rfl, rfl, rfl⟩ := h
    cases hx with
    | dat hd =>
      cases hd with
      | nil => exact .inl ⟨rfl, rfl, rfl⟩
      | list vs a1 a2 a3 a4 a5 a6 a7 a8 =>
        rename_i b o cap
        obtain ⟨ws, hw⟩ := cells_mk (c := c) (b := b) (o := o) a1 (fun k x j d h1 h2 => ⟨vs k j, a5 k x j d h1 h2, a6 k x j d h1 h2⟩)
        exact .inr ⟨⟨b, o, none⟩, cap, ws, rfl, .inl rfl, a2, hw⟩
      | void sz0 a hk => exact .inr ⟨a, 0, [], rfl, .inr ⟨rfl, _, _, rfl⟩, Nat.le_refl _, ⟨by simp, by simp, by simp, by simp⟩⟩
  · rename_i f i sz0 off len
    split at h
    · rename_i md sz' xs' hr
      split at h
      · rename_i hsz
        subst hsz
        simp only [Option.some.injEq, Prod.mk.injEq] at h
        obtain ⟨rfl, rfl, rfl⟩ := h
        obtain ⟨hi, b, cap, h1, h2, h3, h4, h5⟩ := sh_row hm hx hr
        obtain ⟨ad, cap', ty, nn, rfl, q1, q2, q3, q4, q5, q6⟩ := h5
        have hl := sub_length xs' off len h4
        have hus : ∀ x ∈ xs', x.length = sz' := by
          cases md with
          | ro =>
            obtain ⟨hrd, _⟩ := h3
            cases hrd with
            | list vs a1 => exact a1
            | void _ _ _ => simp
          | own => obtain ⟨⟨cur, ty, fz, k1, k2, k3, k4, k4'⟩, _⟩ := h3; exact k4.hsz
          | excl => obtain ⟨⟨cur, ty, fz, k1, k2, k3, k4, k4'⟩, _⟩ := h3; exact k4.hsz
        have hus' : ∀ x ∈ (xs'.drop off).take len, x.length = sz' := fun x hx => hus x (List.mem_of_mem_drop (List.mem_of_mem_take hx))
        rcases q6 with rfl | ⟨rfl, rfl, _, hsp⟩
        · obtain ⟨ws, hw⟩ := cells_mk (c := c) (b := b) (o := off * sz') hus' (fun k x j d hx hd => by
            rw [sub_get] at hx
            split at hx
            · obtain ⟨v, z1, z2⟩ := h3.elem hx j d hd
              refine ⟨v, ?_, z2⟩
              rw [Nat.add_mul] at z1
              rw [← z1]; congr 2; omega
            · cases hx)
          exact .inr ⟨⟨b, off * sz', none⟩, cap', ws, by rw [hl], .inl rfl, by rw [hl]; exact q2, hw⟩
        · refine .inr ⟨ad, 0, [], by simp, .inl hsp, by simp, ⟨by simp, by simp, by simp, by simp⟩⟩
      · cases h
    · cases h
  · rename_i f g j e sz0 off len
    split at h
    · rename_i md sz' xs' hr
      split at h
      · rename_i hsz
        subst hsz
        simp only [Option.some.injEq, Prod.mk.injEq] at h
        obtain ⟨rfl, rfl, rfl⟩ := h
        obtain ⟨cs, b, cap, hg, hj, h3, h4, h5, _⟩ := gh_row hm hx hr
        obtain ⟨ad, cap', ty, nn, rfl, q1, q2, q3, q4, q5, q6⟩ := h5
        have hl := sub_length xs' off len h4
        have hus : ∀ x ∈ xs', x.length = sz' := by
          obtain ⟨⟨cur, ty, fz, k1, k2, k3, k4, k4'⟩, _⟩ := h3; exact k4.hsz
        have hus' : ∀ x ∈ (xs'.drop off).take len, x.length = sz' := fun x hx => hus x (List.mem_of_mem_drop (List.mem_of_mem_take hx))
        rcases q6 with rfl | ⟨rfl, rfl, _, hsp⟩
        · obtain ⟨ws, hw⟩ := cells_mk (c := c) (b := b) (o := off * sz') hus' (fun k x j d hx hd => by
            rw [sub_get] at hx
            split at hx
            · obtain ⟨v, z1, z2⟩ := h3.elem hx j d hd
              refine ⟨v, ?_, z2⟩
              rw [Nat.add_mul] at z1
              rw [← z1]; congr 2; omega
            · cases hx)
          exact .inr ⟨⟨b, off * sz', none⟩, cap', ws, by rw [hl], .inl rfl, by rw [hl]; exact q2, hw⟩
        · refine .inr ⟨ad, 0, [], by simp, .inl hsp, by simp, ⟨by simp, by simp, by simp, by simp⟩⟩
      · cases h
    · cases h
  · cases h

end Go.Eng
end

/- New blocks: what is laid, boxed, built as a row, converted. -/
section
namespace Go.Eng
open Go Go.RowKit
variable [Inhabited Pkg]
set_option linter.unusedSectionVars false

/-- what an operation that turns memory comes to -/
def Does (P : Program) (c : Cx) (s : Sem Value) (m' : Mem) (res : AV) : Prop := ∃ c' v, s.run P c.w = .ok v c'.w ∧ Ext c c' ∧ MemOk c' m' ∧ VL c' res v

theorem RunsTo.does {P : Program} {c : Cx} {s : Sem Value} {m : Mem} {res : AV} (h : RunsTo P c s res) (hm : MemOk c m) : Does P c s m res := by
  obtain ⟨v, h1, h2⟩ := h
  exact ⟨c, v, h1, .refl _, hm, h2⟩

/-- a step of ghosts ahead of an operation -/
theorem Does.ghost {P : Program} {c c1 : Cx} {s : Sem Value} {m' : Mem} {res : AV} (g : Ghost c c1) (h : Does P c1 s m' res) : Does P c s m' res := by
  obtain ⟨c', v, h1, h2, h3, h4⟩ := h
  rw [g.w] at h1
  exact ⟨c', v, h1, g.ext.trans h2, h3, h4⟩

/-- The context behind a new block, which entity i owns. -/
def Cx.new (c : Cx) (w' : World) (i n rl : Nat) : Cx :=
  { w := w', lv := fun x => if x = c.w.heap.size then n else c.lv x, own := fun x => if x = c.w.heap.size then some (.lent i) else c.own x,
    bl := fun k => if k = i then some c.w.heap.size else c.bl k, bg := c.bg, rl := fun k => if k = i then rl else c.rl k, ep := c.ep }

structure NewW (w w' : World) (cur : Array Value) (ty : TypeId) (fz : Nat × Nat) : Prop where
  os : w'.os = w.os
  tape : w'.tape = w.tape
  output : w'.output = w.output
  size : w'.heap.size = w.heap.size + 1
  old : ∀ x, x < w.heap.size → w'.heap[x]? = w.heap[x]?
  new : w'.heap[w.heap.size]? = some (.cells cur ty fz)

theorem NewW.alloc (w : World) (cur : Array Value) (ty : TypeId) : NewW w (w.alloc (.cells cur ty)) cur ty (0, 0) :=
  ⟨rfl, rfl, rfl, by simp, fun x hx => heap_alloc_old w _ x hx, heap_alloc_new w _⟩

theorem NewW.drew_alloc (w : World) (cur : Array Value) (ty : TypeId) : NewW w (w.drew.alloc (.cells cur ty)) cur ty (0, 0) :=
  ⟨rfl, rfl, rfl, by simp, fun x hx => heap_alloc_old w.drew _ x hx, heap_alloc_new w.drew _⟩

theorem new_new {c : Cx} {m : Mem} {w' : World} {i n rl : Nat} {cur : Array Value} {ty : TypeId} {fz : Nat × Nat} (hm : MemOk c m) (hi : m.L[i]? = some none) (h : NewW c.w w' cur ty fz) :
    New c (c.new w' i n rl) (.lent i) cur ty fz := by
  have hbl : c.bl i = none := hm.ln i (.inl hi)
  have hne : ∀ k x, c.bl k = some x → k ≠ i := fun k x hk e => by rw [e, hbl] at hk; cases hk
  exact ⟨h.os, h.tape, h.output, h.size, h.old, h.new, fun x hx => by simp [Cx.new, hx], fun x hx => by simp [Cx.new, hx], by simp [Cx.new],
    fun k x hk => by simp only [Cx.new, if_neg (hne k x hk)]; exact hk, fun k x hk => by simp only [Cx.new, if_neg (hne k x hk)], fun k x hk => hk, rfl⟩

/-- **A new object.** -/
theorem new_obj {c : Cx} {m : Mem} {w' : World} {i : Nat} {cur : Array Value} {ty : TypeId} {cs : List AV} (hm : MemOk c m) (hi : m.L[i]? = some none) (h : NewW c.w w' cur ty (0, 0)) (hc : All2 (VL c) cs cur.toList) :
    Ext c (c.new w' i 0 0) ∧ MemOk (c.new w' i 0 0) (m.set (.loc i) (.obj cs)) ∧ VL (c.new w' i 0 0) (.ptr (.loc i) 0) (.pointer (some ⟨c.w.heap.size, 0, none⟩)) := by
  have p := new_new (n := 0) (rl := 0) hm hi h
  have x := p.ext hm.wf
  refine ⟨x, hm.fresh hi x (p.wf hm.wf) rfl (fun k hk => by simp [Cx.new, hk]) rfl (fun who => p.same hm.wf who) ⟨c.w.heap.size, cur, ty, by simp [Cx.new], h.new, by simp [Cx.new], by simp [Cx.new], ?_⟩, .ptrl (by simp [Cx.new])⟩
  have hc' := x.all2 hc
  refine ⟨by simpa using hc'.length, fun j a ha => ?_⟩
  obtain ⟨v, h1, h2⟩ := hc'.get j a ha
  exact ⟨v, by simpa using h1, h2⟩

/-- **A new row.** -/
theorem new_row {c : Cx} {m : Mem} {w' : World} {i sz cap n : Nat} {cur : Array Value} {ty : TypeId} {fz : Nat × Nat} {xs : Row} {f : Bool} {md : Mode} (hm : MemOk c m) (hi : m.L[i]? = some none) (h : NewW c.w w' cur ty fz)
    (hfz : NoFrz cur.size fz) (hsize : cap * sz ≤ cur.size) (hone : ∀ v ∈ cur.toList, v.oneCell' = true) (hc : RowC c sz xs cur) (hlen : xs.length ≤ cap) (hmax : cap ≤ maxLen) (hpos : 0 < sz) (hf : f = true → cap = xs.length)
    (hmd : md ≠ .ro) (hn : n = md.lv (xs.length * sz)) :
    Ext c (c.new w' i n xs.length) ∧ MemOk (c.new w' i n xs.length) (m.set (.loc i) (.row md sz xs)) ∧
      VL (c.new w' i n xs.length) (.sh f i sz 0 xs.length) (.slice (some ⟨c.w.heap.size, 0, none⟩) xs.length cap) := by
  have p := new_new (n := n) (rl := xs.length) hm hi h
  have x := p.ext hm.wf
  have hrow : RowOk (c.new w' i n xs.length) (.lent i) c.w.heap.size cap sz xs md :=
    ⟨⟨cur, ty, fz, h.new, hfz, hsize, hc.ext x, hone⟩, hlen, hmax, hpos, by simp [Cx.new], hmd, by simp [Cx.new, hn]⟩
  refine ⟨x, hm.fresh hi x (p.wf hm.wf) rfl (fun k hk => by simp [Cx.new, hk]) rfl (fun who => p.same hm.wf who) ⟨c.w.heap.size, cap, by simp [Cx.new], by simp [Cx.new], ?_⟩, ?_⟩
  · cases md with
    | ro => exact absurd rfl hmd
    | own => exact hrow
    | excl => exact hrow
  · refine .sh (b := c.w.heap.size) (by simp [Cx.new]) (by simp [Cx.new]) ⟨⟨c.w.heap.size, 0, none⟩, cap, ty, cur.size, rfl, shape_of h.new, hlen, hmax, by rw [Nat.zero_add]; exact hsize, hf, .inl (by simp)⟩

theorem alloc_ok {P : Program} {T : Tab} {c : Cx} {m m' : Mem} (hT : TabOk P T) (hm : MemOk c m) {i : Nat} (hi : m.L[i]? = some none) {t : TypeId} {res : AV} (h : alloc T m i t = some (res, m')) :
    Does P c (Instr.alloc t true (.tuple #[])) m' res := by
  unfold alloc at h
  split at h
  · rename_i ti hti
    simp only [Option.some.injEq, Prod.mk.injEq] at h
    obtain ⟨rfl, rfl⟩ := h
    obtain ⟨j, ds, z, f⟩ := hT.facts hti
    obtain ⟨hz, _⟩ := zerosOk_all2 (c := c) f.zeros
    obtain ⟨q1, q2, q3⟩ := new_obj hm hi (NewW.alloc c.w z.cells t) hz
    exact ⟨_, _, by simp [Instr.alloc, f.zeroValue, newVar, newRow, Cx.new], q1, q2, q3⟩
  · cases h

theorem vals_cells {c : Cx} {x : AV} {v : Value} {xs : List AV} (h : All2 (VL c) xs (valsOf x v)) (hl : xs.all AV.leaf = true) : v.cells.toList = valsOf x v := by
  by_cases hagg : ∃ cs, x = .agg cs
  · obtain ⟨cs, rfl⟩ := hagg
    rfl
  · have hv : valsOf x v = [v] := by cases x <;> first | rfl | exact absurd ⟨_, rfl⟩ hagg
    rw [hv] at h ⊢
    match xs, h with
    | [b], h =>
      have := (h.1.leaf (by simpa using hl)).1
      rw [this]

theorem mapS_keep {c : Cx} {m m' : Mem} {as bs : List AV} {vs : List Value} (hs : mapS keep m as = some (bs, m')) (h : MemOk c m) (hv : All2 (VL c) as vs) :
    ∃ c', Ghost c c' ∧ MemOk c' m' ∧ All2 (VL c') bs vs :=
  mapS_ok (P := fun c a v => VL c a v) (R := fun c a v => VL c a v) (fun c m a b m' v h1 h2 h3 => keep_ok h1 h2 h3) (fun _ _ _ _ x h => h.ext x) (fun _ _ _ _ x h => h.ext x) as vs bs c m m' hs h hv

end Go.Eng
end

/- Free places stay free; boxes, rows that are built and made, conversions. -/
section
namespace Go.Eng
open Go Go.RowKit
variable [Inhabited Pkg]
set_option linter.unusedSectionVars false

/-- places of the list that are free stay free, and it keeps its length -/
structure Free (m m' : Mem) : Prop where
  free : ∀ (i : Nat), m.L[i]? = some none → m'.L[i]? = some none
  len : m'.L.length = m.L.length

theorem Free.refl (m : Mem) : Free m m := ⟨fun _ h => h, rfl⟩
theorem Free.trans {a b c : Mem} (h : Free a b) (k : Free b c) : Free a c := ⟨fun i hi => k.free i (h.free i hi), k.len.trans h.len⟩

theorem Free.set {m : Mem} {k : Nat} {e0 e : Ent} (h : m.get (.loc k) = some e0) : Free m (m.set (.loc k) e) := by
  have hk := get_loc h
  refine ⟨fun i hi => ?_, by simp [Mem.set]⟩
  simp only [Mem.set]
  rw [set_get]
  split
  · rename_i h2
    rw [h2.1, hi] at hk
    cases hk
  · exact hi

theorem Free.setRow {m : Mem} {g j : Nat} {a : AV} : Free m (m.setRow g j a) := by
  unfold Mem.setRow
  split
  · exact ⟨fun i hi => hi, rfl⟩
  · exact .refl _

theorem snap_free {m m' : Mem} {a : AV} {d : D} (h : snap m a = some (d, m')) : Free m m' := by
  unfold snap at h
  split at h
  · simp only [Option.some.injEq, Prod.mk.injEq] at h; rw [← h.2]; exact .refl _
  · split at h
    · rename_i md sz' xs hr
      split at h
      · simp only [Option.some.injEq, Prod.mk.injEq] at h
        rw [← h.2]
        cases md <;> first
          | exact .refl _
          | exact .set hr
      · cases h
    · cases h
  · split at h
    · rename_i md sz' xs hr
      split at h
      · simp only [Option.some.injEq, Prod.mk.injEq] at h
        rw [← h.2]
        cases md <;> first
          | exact .refl _
          | exact .setRow
      · cases h
    · cases h
  · cases h

theorem mapS_free {α β : Type} {f : Mem → α → Option (β × Mem)} (hf : ∀ m a b m', f m a = some (b, m') → Free m m') : ∀ (as : List α) (bs : List β) (m m' : Mem), mapS f m as = some (bs, m') → Free m m'
  | [], bs, m, m', h => by
    simp only [mapS, Option.some.injEq, Prod.mk.injEq] at h
    rw [← h.2]; exact .refl _
  | a :: r, bs, m, m', h => by
    simp only [mapS] at h
    split at h
    · rename_i b m1 h1
      split at h
      · rename_i bs1 m2 h2
        simp only [Option.some.injEq, Prod.mk.injEq] at h
        rw [← h.2]
        exact (hf _ _ _ _ h1).trans (mapS_free hf r _ _ _ h2)
      · cases h
    · cases h

theorem keep_free {m m' : Mem} {a b : AV} (h : keep m a = some (b, m')) : Free m m' := by
  unfold keep at h
  split at h
  · split at h
    · rename_i d m1 h1
      simp only [Option.some.injEq, Prod.mk.injEq] at h
      rw [← h.2]; exact snap_free h1
    · cases h
  · simp only [Option.some.injEq, Prod.mk.injEq] at h
    rw [← h.2]; exact .refl _

theorem pass1_free {m m' : Mem} {a b : AV} (h : pass1 m a = some (b, m')) : Free m m' := by
  unfold pass1 at h
  split at h
  case h_7 | h_8 =>
    split at h
    · rename_i d m1 h1
      simp only [Option.some.injEq, Prod.mk.injEq] at h
      rw [← h.2]; exact snap_free h1
    · cases h
  case h_9 =>
    split at h
    · simp only [Option.some.injEq, Prod.mk.injEq] at h
      rw [← h.2]; exact .refl _
    · cases h
  case h_10 => cases h
  all_goals
    simp only [Option.some.injEq, Prod.mk.injEq] at h
    rw [← h.2]; exact .refl _

theorem lpass_free {m m' : Mem} {a b : AV} (h : lpass m a = some (b, m')) : Free m m' := by
  unfold lpass at h
  split at h
  · cases h
  · exact pass1_free h

theorem giveSh_free {m m' : Mem} {f : Bool} {i sz off len : Nat} {b : AV} (h : giveSh m f i sz off len = some (b, m')) : Free m m' := by
  unfold giveSh at h
  split at h
  · rename_i md s xs hr
    split at h
    · simp only [Option.some.injEq, Prod.mk.injEq] at h
      rw [← h.2]; exact .set hr
    · exact lpass_free h
  · cases h

theorem giveL_free {f : Mem → Nat → Nat → AV → Option (AV × Mem)} (hf : ∀ m g j a b m', f m g j a = some (b, m') → Free m m') : ∀ (as bs : List AV) (m m' : Mem) (g j : Nat), giveL f m g j as = some (bs, m') → Free m m'
  | [], bs, m, m', g, j, h => by
    simp only [giveL, Option.some.injEq, Prod.mk.injEq] at h
    rw [← h.2]; exact .refl _
  | a :: r, bs, m, m', g, j, h => by
    simp only [giveL] at h
    split at h
    · rename_i b m1 h1
      split at h
      · rename_i bs1 m2 h2
        simp only [Option.some.injEq, Prod.mk.injEq] at h
        rw [← h.2]
        exact (hf _ _ _ _ _ _ h1).trans (giveL_free hf r _ _ _ _ _ h2)
      · cases h
    · cases h

theorem givePtr_free {f : Mem → Nat → Nat → AV → Option (AV × Mem)} (hf : ∀ m g j a b m', f m g j a = some (b, m') → Free m m') {m m' : Mem} {r : Ref} {off : Nat} {b : AV} (h : givePtr f m r off = some (b, m')) : Free m m' := by
  unfold givePtr at h
  split at h
  · simp only [Option.some.injEq, Prod.mk.injEq] at h
    rw [← h.2]; exact .refl _
  · split at h
    · rename_i cs hi
      split at h
      · rename_i ds m1 h1
        simp only [Option.some.injEq, Prod.mk.injEq] at h
        rw [← h.2]
        have f1 := giveL_free hf _ _ _ _ _ _ h1
        have f0 := Free.set (e := .fwd m.G.length) hi
        exact ⟨fun i hi => f1.free i (f0.free i hi), f1.len.trans f0.len⟩
      · cases h
    · cases h

theorem give_free : ∀ (n : Nat) (m : Mem) (g j : Nat) (a b : AV) (m' : Mem), give n m g j a = some (b, m') → Free m m'
  | 0, m, g, j, a, b, m', h => by
    unfold give at h
    split at h
    · exact giveSh_free h
    · exact lpass_free h
  | n + 1, m, g, j, a, b, m', h => by
    unfold give at h
    split at h
    · exact giveSh_free h
    · exact givePtr_free (give_free n) h
    · exact lpass_free h

theorem passC_free {m m' : Mem} {a b : AV} (h : passC m a = some (b, m')) : Free m m' := by
  unfold passC at h
  split at h
  · exact give_free _ _ _ _ _ _ _ h
  · exact pass1_free h

theorem pass_free {m m' : Mem} {a b : AV} (h : pass m a = some (b, m')) : Free m m' := by
  unfold pass at h
  split at h
  · split at h
    · rename_i ds m1 h1
      simp only [Option.some.injEq, Prod.mk.injEq] at h
      rw [← h.2]; exact mapS_free (fun _ _ _ _ h => passC_free h) _ _ _ _ h1
    · cases h
  · split at h
    · rename_i ds m1 h1
      simp only [Option.some.injEq, Prod.mk.injEq] at h
      rw [← h.2]; exact mapS_free (fun _ _ _ _ h => passC_free h) _ _ _ _ h1
    · cases h
  · exact give_free _ _ _ _ _ _ _ h
  · exact pass1_free h

/-! ### boxes -/

theorem box_ok {P : Program} {c : Cx} {m m' : Mem} (hm : MemOk c m) {i : Nat} (hi : m.L[i]? = some none) {t : TypeId} {x res : AV} {v : Value} (h : box m i x = some (res, m')) (hx : VL c x v) :
    Does P c (Instr.box t v) m' res := by
  unfold box at h
  split at h
  · rename_i xs m1 h1
    split at h
    · rename_i hl
      simp only [Option.some.injEq, Prod.mk.injEq] at h
      obtain ⟨rfl, rfl⟩ := h
      obtain ⟨c1, g, hm1, hall⟩ := mapS_keep h1 hm hx.vals
      have hfree := mapS_free (fun _ _ _ _ h => keep_free h) _ _ _ _ h1
      refine Does.ghost g ?_
      have hv := vals_cells hall hl
      obtain ⟨q1, q2, q3⟩ := new_obj hm1 (hfree.free i hi) (NewW.alloc c1.w v.cells t) (by rw [hv]; exact hall)
      exact ⟨_, _, by simp [Instr.box, newVar, newRow, Cx.new], q1, q2, q3⟩
    · cases h
  · cases h

/-! ### rows -/

theorem mapS_snap {c : Cx} {m m' : Mem} {as : List AV} {ds : List D} {vs : List Value} (hs : mapS snap m as = some (ds, m')) (h : MemOk c m) (hv : All2 (VL c) as vs) :
    ∃ c', Ghost c c' ∧ MemOk c' m' ∧ All2 (fun d v => RD c'.w c'.lv d v) ds vs :=
  mapS_ok (P := fun c a v => VL c a v) (R := fun c d v => RD c.w c.lv d v) (fun c m a b m' v h1 h2 h3 => by obtain ⟨c', g, k, r, _⟩ := snap_ok h1 h2 h3; exact ⟨c', g, k, r⟩)
    (fun _ _ _ _ x h => h.ext x) (fun _ _ _ _ x h => h.stay x.stay) as vs ds c m m' hs h hv

theorem chunks_get {α : Type} (sz : Nat) : ∀ (n : Nat) (l : List α) (k : Nat) (x : List α), (chunks sz n l)[k]? = some x → k < n ∧ x = (l.drop (k * sz)).take sz
  | 0, l, k, x, h => by simp [chunks] at h
  | n + 1, l, 0, x, h => by
    simp only [chunks, List.getElem?_cons_zero, Option.some.injEq] at h
    subst h
    exact ⟨by omega, by simp⟩
  | n + 1, l, k + 1, x, h => by
    simp only [chunks, List.getElem?_cons_succ] at h
    obtain ⟨h1, h2⟩ := chunks_get sz n (l.drop sz) k x h
    refine ⟨by omega, ?_⟩
    rw [h2, List.drop_drop, Nat.add_mul, Nat.one_mul, Nat.add_comm]

theorem chunks_length {α : Type} (sz : Nat) : ∀ (n : Nat) (l : List α), (chunks sz n l).length = n
  | 0, l => rfl
  | n + 1, l => by simp [chunks, chunks_length sz n]

/-- cells that read as data, in elements -/
theorem rowC_chunks {c : Cx} {sz n : Nat} {ds : List D} {cur : Array Value} (h : All2 (fun d v => RD c.w c.lv d v) ds cur.toList) (hl : ds.length = n * sz) : RowC c sz (chunks sz n ds) cur := by
  refine ⟨fun x hx => ?_, fun k x j d hx hd => ?_⟩
  · obtain ⟨k, hk⟩ := List.getElem?_of_mem hx
    obtain ⟨h1, h2⟩ := chunks_get sz n ds k x hk
    rw [h2]
    have : (k + 1) * sz ≤ n * sz := Nat.mul_le_mul_right _ h1
    rw [Nat.add_mul] at this
    simp; omega
  · obtain ⟨h1, h2⟩ := chunks_get sz n ds k x hx
    rw [h2, sub_get] at hd
    split at hd
    · obtain ⟨v, q1, q2⟩ := h.get _ d hd
      exact ⟨v, by simpa using q1, q2⟩
    · cases hd

theorem all2_rd_one {c : Cx} : ∀ {ds : List D} {vs : List Value}, All2 (fun d v => RD c.w c.lv d v) ds vs → ∀ v ∈ vs, v.oneCell' = true
  | [], [], _ => by simp
  | d :: r, v :: s, h => by
    intro u hu
    rcases List.mem_cons.1 hu with rfl | hu
    · exact h.1.oneCell
    · exact all2_rd_one h.2 u hu
  | [], _ :: _, h => h.elim
  | _ :: _, [], h => h.elim

theorem zeroCells_length (z : List AV) : ∀ n, (zeroCells z n).length = n * z.length
  | 0 => by simp [zeroCells]
  | n + 1 => by simp [zeroCells, zeroCells_length z n, Nat.add_mul, Nat.add_comm]

theorem zeroCells_get (z : List AV) (n k : Nat) (hz : 0 < z.length) (hk : k < n * z.length) : (zeroCells z n)[k]? = z[k % z.length]? := by
  induction n generalizing k with
  | zero => simp at hk
  | succ n ih =>
    simp only [zeroCells]
    rw [List.getElem?_append]
    split
    · rename_i h; rw [Nat.mod_eq_of_lt h]
    · rename_i h
      rw [ih (k - z.length) (by rw [Nat.add_mul] at hk; omega)]
      have : k % z.length = (k - z.length) % z.length := Nat.mod_eq_sub_mod (by omega)
      rw [this]

/-- the zero cells of a row -/
theorem zeroCells_all2 {c : Cx} {zs : List AV} {z : Value} {n : Nat} (h : All2 (VL c) zs z.cells.toList) (hz : 0 < zs.length) :
    All2 (VL c) (zeroCells zs n) ((Array.range (n * z.cells.size)).map (z.cells[· % z.cells.size]!)).toList := by
  have hl := h.length
  simp only [Array.length_toList] at hl
  refine All2.of (by simp [zeroCells_length, hl]) fun j a ha v hv => ?_
  have hj := (List.getElem?_eq_some_iff.1 ha).1
  rw [zeroCells_length] at hj
  rw [zeroCells_get zs n j hz hj] at ha
  obtain ⟨u, q1, q2⟩ := h.get _ a ha
  simp only [Array.toList_map, Array.toList_range, List.getElem?_map] at hv
  rw [List.getElem?_range (by rw [← hl]; exact hj)] at hv
  simp only [Option.map_some, Option.some.injEq] at hv
  have hm : j % zs.length < zs.length := Nat.mod_lt _ hz
  rw [← hl] at hv
  have : z.cells[j % zs.length]! = u := by
    rw [Array.getElem?_toList] at q1
    simp [getElem!_def, q1]
  rw [this] at hv
  rw [← hv]; exact q2

end Go.Eng
end

/- Rows that are built and made; conversions. -/
section
namespace Go.Eng
open Go Go.RowKit
variable [Inhabited Pkg]
set_option linter.unusedSectionVars false

theorem buildSlice_ok {P : Program} {T : Tab} {c : Cx} {m m' : Mem} (hT : TabOk P T) (hm : MemOk c m) {i : Nat} (hi : m.L[i]? = some none) {t : TypeId} {n : Nat} {ps : List (Nat × AV)} {qs : List (Nat × Value)} {res : AV}
    (h : buildSlice T m i t n ps = some (res, m')) (hp : All2 (fun (p : Nat × AV) (q : Nat × Value) => p.1 = q.1 ∧ VL c p.2 q.2) ps qs) : Does P c (Instr.buildSlice t n qs.toArray) m' res := by
  unfold buildSlice at h
  split at h
  · rename_i ti hti
    obtain ⟨_, ds, _, f⟩ := hT.facts hti
    have hk := f.kind
    split at h
    · rename_i e he
      rw [he] at hk
      have : ds = .slice e := by cases ds <;> simp_all [kindOk]
      subst this
      split at h
      · rename_i te hte
        obtain ⟨ie, dse, z, fe⟩ := hT.facts hte
        obtain ⟨hz, _⟩ := zerosOk_all2 (c := c) fe.zeros
        split at h
        · rename_i hcond
          obtain ⟨hc1, hc2, hc3⟩ := hcond
          split at h
          · rename_i cs hcs
            split at h
            · rename_i dd m1 hsn
              simp only [Option.some.injEq, Prod.mk.injEq] at h
              obtain ⟨rfl, rfl⟩ := h
              have hzs := fe.zsize
              have hz2 := zeroCells_all2 (n := n) hz (by omega)
              rw [hzs] at hz2
              obtain ⟨vs', q1, q2, q3⟩ := fill_ok (place2 := fun i => some (i * te.size, te.size)) (fun _ _ h => h) ps qs _ cs ((Array.range (n * te.size)).map (z.cells[· % te.size]!)) hcs hz2 hp
              obtain ⟨c1, g, hm1, hall⟩ := mapS_snap hsn hm q2
              have hfree := mapS_free (fun _ _ _ _ h => snap_free h) _ _ _ _ hsn
              have hlen : dd.length = n * te.size := by
                have := hall.length
                simp only [Array.length_toList, q3] at this
                rw [this]; simp
              have hvs : vs'.size = n * te.size := by rw [q3]; simp
              refine Does.ghost g ?_
              have hcl := chunks_length te.size n dd
              obtain ⟨r1, r2, r3⟩ := new_row (f := true) (md := .excl) (cap := n) (n := 0) hm1 (hfree.free i hi) (NewW.alloc c1.w vs' e) (by intro k _; omega) (by rw [hvs]; exact Nat.le_refl _) (all2_rd_one hall)
                (rowC_chunks hall hlen) (by rw [hcl]; exact Nat.le_refl _) (by
                  have : n ≤ n * te.size := Nat.le_mul_of_pos_right n hc3
                  unfold maxLen; omega) hc3 (fun _ => by rw [hcl]) (by simp) rfl
              rw [hcl] at r1 r2 r3
              refine ⟨_, _, ?_, r1, r2, r3⟩
              have hns : ¬ (n * te.size > 2 ^ 24) := by omega
              simp only [Instr.buildSlice, Sem.run_bind, f.und, fe.sizeOf, Result.andThen_ok, if_neg hns]
              by_cases h0 : n * te.size = 0
              · have hn0 : n = 0 := by
                  rcases Nat.mul_eq_zero.1 h0 with h | h <;> omega
                subst hn0
                have hr0 : Array.range 0 = #[] := rfl
                have hq1 : Instr.fill (fun i => some (i * te.size, te.size)) #[] qs = some vs' := by simpa [hr0] using q1
                simp [hr0, hq1, newRow, Cx.new]
              · simp only [h0, if_false, Sem.run_bind, fe.zeroValue, Result.andThen_ok, Sem.run_pure, hzs, q1]
                simp [newRow, Cx.new]
            · cases h
          · cases h
        · cases h
      · cases h
    · cases h
  · cases h

theorem replicate_all2 {c : Cx} {zd : List D} {z : Value} {n : Nat} (h : All2 (fun d v => RD c.w c.lv d v) zd z.cells.toList) (hz : 0 < zd.length) (l : Nat) (hl : l ≤ n) :
    RowC c zd.length (List.replicate l zd) ((Array.range (n * z.cells.size)).map (z.cells[· % z.cells.size]!)) := by
  have hlen := h.length
  simp only [Array.length_toList] at hlen
  refine ⟨fun x hx => by rw [List.eq_of_mem_replicate hx], fun k x j d hx hd => ?_⟩
  have hk := (List.getElem?_eq_some_iff.1 hx).1
  simp only [List.length_replicate] at hk
  have hx' : x = zd := List.eq_of_mem_replicate (List.mem_of_getElem? hx)
  subst hx'
  have hj := (List.getElem?_eq_some_iff.1 hd).1
  obtain ⟨v, q1, q2⟩ := h.get j d hd
  refine ⟨v, ?_, q2⟩
  have hp : k * x.length + j < n * z.cells.size := by
    have : (k + 1) * x.length ≤ n * x.length := Nat.mul_le_mul_right _ (by omega)
    rw [Nat.add_mul] at this
    rw [← hlen]; omega
  rw [Array.getElem?_map, Array.getElem?_range, if_pos hp]
  simp only [Option.map_some, Option.some.injEq]
  have hm : (k * x.length + j) % z.cells.size = j := by
    rw [← hlen, Nat.mul_comm, Nat.mul_add_mod, Nat.mod_eq_of_lt hj]
  rw [hm]
  rw [Array.getElem?_toList] at q1
  simp [getElem!_def, q1]

theorem zeros_one {c : Cx} {as : List AV} {vs : List Value} (h : All2 (VL c) as vs) (hl : as.all AV.leaf = true) : ∀ v ∈ vs, v.oneCell' = true := fun v hv => (all2_one h hl v hv).2

theorem mem_range_map {z : Array Value} {n : Nat} (h : ∀ v ∈ z.toList, v.oneCell' = true) (hz : 0 < z.size) : ∀ v ∈ ((Array.range n).map (z[· % z.size]!)).toList, v.oneCell' = true := by
  intro v hv
  simp only [Array.toList_map, List.mem_map] at hv
  obtain ⟨k, _, rfl⟩ := hv
  have hk : k % z.size < z.size := Nat.mod_lt _ hz
  have : z[k % z.size]! = z[k % z.size] := by simp [hk]
  rw [this]
  exact h _ (by simp)

theorem makeSlice_ok {P : Program} {T : Tab} {c : Cx} {m m' : Mem} (hT : TabOk P T) (hm : MemOk c m) {i : Nat} (hi : m.L[i]? = some none) {t : TypeId} {X Y res : AV} {v u : Value}
    (h : makeSlice T m i t X Y = some (res, m')) (hx : VL c X v) (hy : VL c Y u) : Does P c (Instr.makeSlice t v u) m' res := by
  unfold makeSlice at h
  split at h
  · rename_i k1 l k2 cc
    cases hx with | dat hx => cases hx with | int =>
    cases hy with | dat hy => cases hy with | int =>
    split at h
    · rename_i ti hti
      obtain ⟨_, ds, _, f⟩ := hT.facts hti
      have hk := f.kind
      split at h
      · rename_i e he
        rw [he] at hk
        have : ds = .slice e := by cases ds <;> simp_all [kindOk]
        subst this
        split at h
        · rename_i te hte
          obtain ⟨ie, dse, z, fe⟩ := hT.facts hte
          obtain ⟨hz, hzl⟩ := zerosOk_all2 (c := c) fe.zeros
          split at h
          · rename_i zd m1 hsn
            split at h
            · rename_i hcond
              obtain ⟨hc1, hc2, hc3, hc4, hc5, hc6⟩ := hcond
              simp only [Option.some.injEq, Prod.mk.injEq] at h
              obtain ⟨rfl, rfl⟩ := h
              obtain ⟨c1, g, hm1, hall⟩ := mapS_snap hsn hm hz
              have hfree := mapS_free (fun _ _ _ _ h => snap_free h) _ _ _ _ hsn
              have hzs := fe.zsize
              have hzd : zd.length = te.size := by
                have := hall.length
                simp only [Array.length_toList] at this
                omega
              have hrow := replicate_all2 (n := cc.toNat) hall (by omega) l.toNat (by omega)
              rw [hzd] at hrow
              refine Does.ghost g ?_
              have hrl : (List.replicate l.toNat zd).length = l.toNat := by simp
              obtain ⟨r1, r2, r3⟩ := new_row (f := false) (md := .excl) (cap := cc.toNat) (n := 0) hm1 (hfree.free i hi) (NewW.alloc c1.w ((Array.range (cc.toNat * z.cells.size)).map (z.cells[· % z.cells.size]!)) e) (by intro k _; omega)
                (by simp [hzs]) (mem_range_map (zeros_one hz hzl) (by omega)) hrow (by rw [hrl]; omega) (by unfold maxLen; omega) hc6 (by simp) (by simp) rfl
              rw [hrl] at r1 r2 r3
              refine ⟨_, _, ?_, r1, r2, r3⟩
              have w1 : IntKind.i64.wrap l = l := by
                unfold IntKind.wrap
                simp [IntKind.signed, IntKind.bits]
                omega
              have w2 : IntKind.i64.wrap cc = cc := by
                unfold IntKind.wrap
                simp [IntKind.signed, IntKind.bits]
                omega
              have hb : ie.bytes = te.bytes := fe.bytes
              have ht : ¬ ((cc < 0 || decide (↑te.bytes * cc > 2 ^ 48)) || decide (l < 0) || decide (l > cc)) = true := by
                have : (te.bytes : Int) * cc = cc * te.bytes := Int.mul_comm _ _
                simp; omega
              simp only [Instr.makeSlice, Sem.run_bind, f.und, Result.andThen_ok, asInt, asIntOf, Sem.run_pure, fe.typeInfo, hb, w1, w2, Sem.run_ite]
              rw [if_neg (by simpa using ht)]
              simp only [Sem.run_pure, Result.andThen_ok, run_askRoom, fe.sizeOf]
              by_cases h0 : cc.toNat * te.size = 0
              · have hn0 : cc.toNat = 0 := by
                  rcases Nat.mul_eq_zero.1 h0 with h | h <;> omega
                have hr0 : Array.range 0 = #[] := rfl
                simp [hn0, hr0, newRow, Cx.new]
              · simp only [h0, if_false, Sem.run_bind, fe.zeroValue, Result.andThen_ok, Sem.run_pure, hzs]
                simp [newRow, Cx.new]
            · cases h
          · cases h
        · cases h
      · cases h
    · cases h
  · cases h

end Go.Eng
end

/- Conversions; what is appended, copied, stored. -/
section
namespace Go.Eng
open Go Go.RowKit
variable [Inhabited Pkg]
set_option linter.unusedSectionVars false

theorem rowBytes_some : ∀ {xs : Row} {l : List UInt8}, rowBytes xs = some l → ∃ ns : List Int, xs = ns.map (fun n => [D.int .u8 n]) ∧ l = ns.map (fun n => UInt8.ofNat n.toNat)
  | [], l, h => by
    simp only [rowBytes, Option.some.injEq] at h
    exact ⟨[], rfl, h.symm⟩
  | x :: r, l, h => by
    unfold rowBytes at h
    split at h
    · rename_i heq; cases heq
    · rename_i n r' heq
      injection heq with e1 e2
      subst e1; subst e2
      cases hr : rowBytes r with
      | none => rw [hr] at h; cases h
      | some l' =>
        rw [hr] at h
        simp only [Option.map_some, Option.some.injEq] at h
        obtain ⟨ns, h1, h2⟩ := rowBytes_some hr
        exact ⟨n :: ns, by simp [h1], by simp [← h, h2]⟩
    · cases h

theorem byteRow_rowC {c : Cx} (l : List UInt8) (cur : Array Value) (h : ∀ (k : Nat) (b : UInt8), l[k]? = some b → cur[k]? = some (.int .u8 b.toNat)) : RowC c 1 (l.map byteRow) cur := by
  refine ⟨fun x hx => ?_, fun k x j d hx hd => ?_⟩
  · obtain ⟨b, _, rfl⟩ := List.mem_map.1 hx
    rfl
  · rw [List.getElem?_map] at hx
    cases hb : l[k]? with
    | none => rw [hb] at hx; cases hx
    | some b =>
      rw [hb] at hx
      simp only [Option.map_some, Option.some.injEq] at hx
      subst hx
      match j with
      | 0 =>
        simp only [byteRow, List.getElem?_cons_zero, Option.some.injEq] at hd
        subst hd
        exact ⟨_, by simpa using h k b hb, .int _ _⟩
      | j + 1 => simp [byteRow] at hd

theorem run_convert_bytes_void {P : Program} (w : World) (src dst e : TypeId) (a : Addr) (cap : Nat) (hs : P.underlying src = some (.slice e)) (he : P.underlying e = some (.int .u8)) (hd : P.underlying dst = some .string) :
    (Go.convert src dst (.slice (some a) 0 cap)).run P w = .ok (.string ByteArray.empty) w := by
  rw [run_convert_bytes_string w src dst e _ 0 cap hs he hd]
  simp [Conv.bytesToString, loadCells, loadCellsFrom]

theorem convert_ok {P : Program} {T : Tab} {c : Cx} {m m' : Mem} (hT : TabOk P T) (hm : MemOk c m) {i : Nat} (hi : m.L[i]? = some none) {src dst : TypeId} {X res : AV} {v : Value}
    (h : convert T m i src dst X = some (res, m')) (hx : VL c X v) : Does P c (Go.convert src dst v) m' res := by
  unfold convert at h
  obtain ⟨⟨a0, e0⟩, hq, h'⟩ := Option.map_eq_some_iff.1 h
  clear h
  simp only [Prod.mk.injEq] at h'
  obtain ⟨rfl, rfl⟩ := h'
  have h := hq
  clear hq
  unfold convertP at h
  split at h
  · cases h
  · rename_i ks hks
    obtain ⟨dsrc, hsu, hsk⟩ := kindT_under hT hks
    split at h
    · rename_i k hk
      have hu := kindT_int hT hk
      split at h
      · simp only [Option.some.injEq, Prod.mk.injEq] at h
        obtain ⟨rfl, rfl⟩ := h
        cases hx with | dat hx => cases hx with | int =>
        exact ⟨c, _, by simp [Go.convert, run_underlying hsu, run_underlying hu, Conv.intToInt], .refl _, hm, .dat (.int _ _)⟩
      · cases h
    · rename_i hk
      have hu := kindT_str hT hk
      split at h
      · simp only [Option.some.injEq, Prod.mk.injEq] at h
        obtain ⟨rfl, rfl⟩ := h
        cases hx with | dat hx => cases hx with | str =>
        exact ⟨c, _, by simp [Go.convert, run_underlying hsu, run_underlying hu], .refl _, hm, .dat (.str _)⟩
      · split at h
        · rename_i e
          have hse := kindT_slice hT hks
          split at h
          · rename_i he
            have heu := kindT_int hT he
            split at h
            · rename_i n sz xs hrd
              split at h
              · rename_i l hl
                split at h
                · rename_i hsz
                  simp only [Option.some.injEq, Prod.mk.injEq] at h
                  obtain ⟨rfl, rfl⟩ := h
                  obtain ⟨ns, rfl, rfl⟩ := rowBytes_some hl
                  rcases rd_ok hm hrd hx with ⟨_, hxs, rfl⟩ | ⟨a, cap, vs, rfl, hsp, hcap, hc⟩
                  · have hns : ns = [] := by simpa using hxs
                    subst hns
                    exact ⟨c, _, run_convert_bytes_nil c.w src e hse heu 0 0 dst hu, .refl _, hm, .dat (.str _)⟩
                  · by_cases hns : ns = []
                    · subst hns
                      refine ⟨c, _, run_convert_bytes_void c.w src dst e a cap hse heu hu, .refl _, hm, .dat (.str _)⟩
                    obtain ⟨b, o, sp⟩ := a
                    have hsp : sp = none := by
                      rcases hsp with h | ⟨h, _⟩
                      · exact h
                      · exact absurd (by simpa using h) hns
                    subst hsp
                    refine ⟨c, _, run_convert_bytes_arg c.w src e hse heu b o _ cap ns (by simp) (fun i hi => ?_) dst hu, .refl _, hm, ?_⟩
                    · have hi' : i < ns.length := by simpa using hi
                      have h1 : (ns.map (fun n => [D.int .u8 n]))[i]? = some [D.int .u8 ns[i]] := by simp
                      obtain ⟨v, q1, q2⟩ := hc.rd i _ 0 _ h1 rfl
                      have hs1 : sz = 1 := by
                        rcases hsz with h | h
                        · exact h
                        · simp at h; subst h; simp at hi'
                      subst hs1
                      have := hc.cell _ _ q1
                      cases q2
                      simp only [Nat.mul_one, Nat.add_zero] at this
                      rw [this]
                      simp [List.getD, hi']
                    · exact .dat (.str _)
                · cases h
              · cases h
            · cases h
          · cases h
        · cases h
    · rename_i e hk
      have hu := kindT_slice hT hk
      split at h
      · rename_i s
        split at h
        · rename_i he
          have heu := kindT_int hT he
          split at h
          · rename_i hsz
            simp only [Option.some.injEq, Prod.mk.injEq] at h
            obtain ⟨rfl, rfl⟩ := h
            cases hx with | dat hx => cases hx with | str =>
            have hrun := Lib.run_convert_string_bytes c.w src dst e s hsu hu heu
            have hge := grownCap_ge c.w s.size 0 e
            have hle := grownCap_le_maxLen c.w s.size 0 e (by unfold maxLen; omega)
            have hcs : (Lib.bytesCells c.w e s).size = grownCap c.w s.size 0 e := by
              have : s.data.size = s.size := rfl
              simp [Lib.bytesCells, this]; omega
            have hnew : NewW c.w (Lib.bytesWorld c.w e s) (Lib.bytesCells c.w e s) e ((Lib.bytesCells c.w e s).size, (Lib.bytesCells c.w e s).size + 1) :=
              ⟨rfl, rfl, rfl, Lib.bytesWorld_size c.w e s, fun x hx => Lib.bytesWorld_at_old c.w e s x hx, Lib.bytesWorld_at_new c.w e s⟩
            have hxl : (s.data.toList.map byteRow).length = s.size := by simp
            have hrow : RowC c 1 (s.data.toList.map byteRow) (Lib.bytesCells c.w e s) := by
              refine byteRow_rowC _ _ fun k b hb => ?_
              have hk := (List.getElem?_eq_some_iff.1 hb).1
              simp only [Array.length_toList] at hk
              have hb' : s.data[k]? = some b := by simpa using hb
              simp only [Lib.bytesCells]
              rw [Array.getElem?_append_left (by simpa using hk), Array.getElem?_map, hb']
              rfl
            have hone : ∀ v ∈ (Lib.bytesCells c.w e s).toList, v.oneCell' = true := by
              intro v hv
              simp only [Lib.bytesCells, Array.toList_append, List.mem_append, Array.toList_map, List.mem_map, Array.toList_replicate, List.mem_replicate] at hv
              rcases hv with ⟨b, _, rfl⟩ | ⟨_, rfl⟩ <;> rfl
            obtain ⟨r1, r2, r3⟩ := new_row (f := false) (md := .excl) (cap := grownCap c.w s.size 0 e) (n := 0) hm hi hnew (by intro k hk; omega) (by rw [hcs]; omega) hone hrow (by rw [hxl]; exact hge) hle (by omega) (by simp) (by simp) rfl
            rw [hxl] at r1 r2 r3
            exact ⟨_, _, hrun, r1, r2, r3⟩
          · cases h
        · cases h
      · cases h
    · cases h

end Go.Eng
end

/- What is appended. -/
section
namespace Go.Eng
open Go Go.RowKit
variable [Inhabited Pkg]
set_option linter.unusedSectionVars false

theorem frozen_not {w : World} {g : Nat} {cur : Array Value} {ty : TypeId} {fz : Nat × Nat} (hg : w.heap[g]? = some (.cells cur ty fz)) (hf : NoFrz cur.size fz) {o : Nat} (ho : o < cur.size) : w.frozen? ⟨g, o, none⟩ = false := by
  obtain ⟨lo, hi⟩ := fz
  have := hf o ho
  simp only [World.frozen?, hg, Bool.and_eq_false_iff, decide_eq_false_iff_not]
  simp only at this
  omega

theorem LK.isNil_eq {k : LK} (h : k.isNil = true) : k = .nil := by cases k <;> simp_all [LK.isNil]

/-- stores into a row of which nothing is frozen -/
theorem run_stores (P : Program) (g o : Nat) (ty : TypeId) (fz : Nat × Nat) : ∀ (vs : List Value) (i : Nat) (cur : Array Value) (w : World), w.heap[g]? = some (.cells cur ty fz) → NoFrz cur.size fz → o + i + vs.length ≤ cur.size →
    (∀ v ∈ vs, v.oneCell' = true) → (storeCells ⟨g, o, none⟩ vs i).run P w = .ok () (w.setRow g (splice cur.toList (o + i) vs).toArray)
  | [], i, cur, w, hg, _, _, _ => by
    simp only [storeCells, splice, List.append_nil, List.length_nil, Nat.add_zero, List.take_append_drop, Array.toArray_toList]
    rw [setRow_self w g cur ty fz hg]
    rfl
  | v :: rest, i, cur, w, hg, hfz, hl, h1 => by
    have hi : o + i < cur.size := by simp at hl; omega
    have hcell : w.cell? ⟨g, o + i, none⟩ = some cur[o + i] := by simp [World.cell?, hg, hi]
    have hfro := frozen_not hg hfz hi
    have hst : (Go.store ((⟨g, o, none⟩ : Addr).add i) v).run P w = .ok () (w.setRow g (cur.setIfInBounds (o + i) v)) := by
      rw [add_off, run_store P w _ v _ (h1 v (by simp)), hcell]
      simp [hfro, setCell_eq_setRow w g (o + i) cur ty fz v hg]
    have ih := run_stores P g o ty fz rest (i + 1) (cur.setIfInBounds (o + i) v) (w.setRow g (cur.setIfInBounds (o + i) v)) (setRow_heap w g cur _ ty _ hg) (by simpa using hfz) (by simp at hl ⊢; omega) (fun x hx => h1 x (by simp [hx]))
    simp only [storeCells, Sem.run_bind, hst, Result.andThen_ok, ih, setRow_setRow]
    congr 3
    have e := list_seg_step cur.toList (o + i) v rest (by simp at hl ⊢; omega)
    simpa [splice, Array.toList_setIfInBounds, Nat.add_assoc] using e

/-- the elements that are appended, as the machine reads them -/
structure News (P : Program) (c : Cx) (sz : Nat) (ys : Row) (u : Value) (nv : List Value) : Prop where
  lenOf : ∀ w, (Builtin.lenOf u).run P w = .ok ys.length w
  cells : ∀ w, w.heap = c.w.heap → (Builtin.firstCells sz ys.length u).run P w = .ok nv.toArray w
  len : nv.length = ys.length * sz
  hsz : ∀ y ∈ ys, y.length = sz
  rd : ∀ k y j d, ys[k]? = some y → y[j]? = some d → ∃ v, nv[k * sz + j]? = some v ∧ RD c.w c.lv d v
  one : ∀ v ∈ nv, v.oneCell' = true

theorem news_ok {P : Program} {c : Cx} {m : Mem} (hm : MemOk c m) {sz : Nat} {Y : AV} {u : Value} {ys : Row} (h : newsOf m sz Y = some ys) (hy : VL c Y u) : ∃ nv, News P c sz ys u nv := by
  unfold newsOf at h
  split at h
  · rename_i s
    split at h
    · rename_i hs1
      subst hs1
      injection h with h
      subst h
      cases hy with | dat hy => cases hy with | str =>
      refine ⟨s.data.toList.map fun b => .int .u8 b.toNat, ⟨fun w => ?_, fun w _ => ?_, by simp, fun y hy => ?_, fun k y j d hk hj => ?_, fun v hv => ?_⟩⟩
      · have : (s.data.toList.map byteRow).length = s.size := by simp
        rw [this]
        rfl
      · have : (s.data.toList.map byteRow).length = s.size := by simp
        rw [this]
        have e : s.extract 0 s.size = s := by simp
        simp only [Builtin.firstCells, e, Sem.run_pure]
        congr 1
        apply Array.ext'
        simp
      · obtain ⟨b, _, rfl⟩ := List.mem_map.1 hy; rfl
      · rw [List.getElem?_map] at hk
        cases hb : s.data.toList[k]? with
        | none => rw [hb] at hk; cases hk
        | some b =>
          rw [hb] at hk
          simp only [Option.map_some, Option.some.injEq] at hk
          subst hk
          match j with
          | 0 =>
            simp only [byteRow, List.getElem?_cons_zero, Option.some.injEq] at hj
            subst hj
            refine ⟨.int .u8 b.toNat, ?_, .int _ _⟩
            simp only [Nat.mul_one, Nat.add_zero, List.getElem?_map, hb, Option.map_some]
          | j + 1 => simp [byteRow] at hj
      · obtain ⟨b, _, rfl⟩ := List.mem_map.1 hv; rfl
    · cases h
  · split at h
    · rename_i n s xs hrd
      split at h
      · rename_i hns
        injection h with h
        subst h
        rcases rd_ok hm hrd hy with ⟨_, rfl, rfl⟩ | ⟨a, cap, vs, rfl, hsp, hcap, hc⟩
        · exact ⟨[], ⟨fun w => rfl, fun w _ => rfl, by simp, by simp, by simp, by simp⟩⟩
        · by_cases hx : xs = []
          · subst hx
            refine ⟨[], ⟨fun w => rfl, fun w _ => ?_, by simp, by simp, by simp, by simp⟩⟩
            simp [Builtin.firstCells, loadCells, loadCellsFrom]
          · have hs : s = sz := by
              rcases hns with hn | hn
              · -- a nil list has no elements
                exfalso
                subst hn
                unfold rd at hrd
                split at hrd
                · simp only [Option.some.injEq, Prod.mk.injEq] at hrd
                  obtain ⟨hkn, rfl, rfl⟩ := hrd
                  cases hy with
                  | dat hy =>
                    cases hy with
                    | void _ _ hk => exact hk (LK.isNil_eq hkn)
                    | list _ _ _ _ _ _ _ hk _ => exact hk (LK.isNil_eq hkn)
                · split at hrd
                  · split at hrd
                    · simp at hrd
                    · cases hrd
                  · cases hrd
                · split at hrd
                  · split at hrd
                    · simp at hrd
                    · cases hrd
                  · cases hrd
                · cases hrd
              · exact hn
            subst hs
            refine ⟨vs, ⟨fun w => rfl, fun w hw => ?_, hc.len, hc.hsz, hc.rd, hc.one⟩⟩
            have := run_firstCells_some (P := P) w s xs.length a xs.length cap vs hc.len (fun j v hj => by
              obtain ⟨b, o, sp⟩ := a
              have hsp : sp = none := by
                rcases hsp with h | ⟨h, _⟩
                · exact h
                · exact absurd h hx
              subst hsp
              rw [add_off]
              have := hc.cell j v hj
              simpa [World.cell?, hw] using this)
            exact this
      · cases h
    · cases h

/-- **Append where there is room.** -/
theorem append_room {P : Program} {T : Tab} {c : Cx} (hT : TabOk P T) {t t2 e ty : TypeId} {te : TI} (hu : P.underlying t = some (.slice e)) (hte : T e = some te) (h2 : (isSlT T t2 || isStrT T t2) = true)
    {ys : Row} {u : Value} {nv : List Value} (hn : News P c te.size ys u nv) {b len cap : Nat} {cur : Array Value} {ety : TypeId} {fz : Nat × Nat} (hh : c.w.heap[b]? = some (.cells cur ety fz)) (hf : NoFrz cur.size fz)
    (hroom : len + ys.length ≤ cap) (hsz : cap * te.size ≤ cur.size) :
    (Builtin.append_ #[t, t2] ty #[.slice (some ⟨b, 0, none⟩) len cap, u]).run P c.w = .ok (.slice (some ⟨b, 0, none⟩) (len + ys.length) cap) (c.w.setRow b (splice cur.toList (len * te.size) nv).toArray) := by
  obtain ⟨ie, dse, z, fe⟩ := hT.facts hte
  have hint : (∃ e2, P.underlying t2 = some (.slice e2)) ∨ P.underlying t2 = some .string := by
    simp only [Bool.or_eq_true] at h2
    rcases h2 with h2 | h2
    · obtain ⟨e2, hk⟩ := isSlT_some h2
      exact .inl ⟨_, kindT_slice hT hk⟩
    · exact .inr (kindT_str hT (isStrT_some h2))
  have hst := run_stores P b (len * te.size) ety fz nv 0 cur c.w hh hf (by
    rw [hn.len]
    have : (len + ys.length) * te.size ≤ cap * te.size := Nat.mul_le_mul_right _ hroom
    rw [Nat.add_mul] at this
    omega) hn.one
  simp only [Nat.add_zero] at hst
  have hadd : (⟨b, 0, none⟩ : Addr).add (len * te.size) = ⟨b, len * te.size, none⟩ := by rw [add_off, Nat.zero_add]
  rcases hint with ⟨e2, hd2⟩ | hd2
  all_goals
    simp only [Builtin.append_, List.getElem?_toArray, List.getElem?_cons_zero, List.getElem?_cons_succ, Sem.run_bind, run_underlying hu, run_underlying hd2, fe.sizeOf, Result.andThen_ok, Sem.run_pure, Bool.false_eq_true, if_false, hn.lenOf, if_pos hroom,
      Bool.not_false, if_true, hn.cells c.w rfl, hadd, hst]

/-- **Append where there is none.** -/
theorem append_grow {P : Program} {T : Tab} {c : Cx} (hT : TabOk P T) {t t2 e ty : TypeId} {te : TI} (hu : P.underlying t = some (.slice e)) (hte : T e = some te) (h2 : (isSlT T t2 || isStrT T t2) = true)
    {ys : Row} {u : Value} {nv : List Value} (hn : News P c te.size ys u nv) {a : Option Addr} {len cap : Nat} {olds : List Value} (ho : ∀ w, w.heap = c.w.heap → (Builtin.firstCells te.size len (.slice a len cap)).run P w = .ok olds.toArray w)
    (hgrow : cap < len + ys.length) (hbytes : (len + ys.length) * te.bytes ≤ 140737488355328) (h63 : len + ys.length ≤ 9223372036854775807) :
    ∃ z : Value, (∃ i d, TyFacts P e te i d z) ∧ (Builtin.append_ #[t, t2] ty #[.slice a len cap, u]).run P c.w = .ok (.slice (some ⟨c.w.heap.size, 0, none⟩) (len + ys.length) (grownCap c.w (len + ys.length) cap e))
      (c.w.drew.alloc (.cells (olds.toArray ++ nv.toArray ++ Builtin.zeroCells z.cells (grownCap c.w (len + ys.length) cap e - (len + ys.length))) e)) := by
  obtain ⟨ie, dse, z, fe⟩ := hT.facts hte
  refine ⟨z, ⟨ie, dse, fe⟩, ?_⟩
  have hint : (∃ e2, P.underlying t2 = some (.slice e2)) ∨ P.underlying t2 = some .string := by
    simp only [Bool.or_eq_true] at h2
    rcases h2 with h2 | h2
    · obtain ⟨e2, hk⟩ := isSlT_some h2
      exact .inl ⟨_, kindT_slice hT hk⟩
    · exact .inr (kindT_str hT (isStrT_some h2))
  have hne : ¬ (len + ys.length ≤ cap) := by omega
  have hb : ie.bytes = te.bytes := fe.bytes
  have hfit := growslice_fits (old := cap) (need := len + ys.length) (bytes := te.bytes) (by omega) hbytes
  have c1 : ¬ (((len + ys.length : Nat) : Int) > IntKind.i64.max ∧ ((False) ∨ ie.bytes = 0)) := by
    simp [IntKind.max, IntKind.signed, IntKind.bits]; omega
  have hnv := hn.cells c.w.drew rfl
  have hov := ho c.w.drew rfl
  rcases hint with ⟨e2, hd2⟩ | hd2
  all_goals
    simp only [Builtin.append_, List.getElem?_toArray, List.getElem?_cons_zero, List.getElem?_cons_succ, Sem.run_bind, run_underlying hu, run_underlying hd2, fe.sizeOf, Result.andThen_ok, Sem.run_pure, Bool.false_eq_true, if_false, hn.lenOf, if_neg hne,
      Bool.not_false, if_true, fe.typeInfo, hb]
    rw [if_neg (by simp [IntKind.max, IntKind.signed, IntKind.bits]; omega)]
    simp only [Sem.run_pure, Result.andThen_ok, Sem.run_bind, fe.typeInfo, hb]
    rw [if_neg (by omega)]
    simp only [Sem.run_bind, Sem.run_pure, Result.andThen_ok, run_choose, Question.forced, Bool.false_eq_true, if_false, fe.typeInfo, hb, run_askRoom, World.drew_eq, hov, hnv, fe.zeroValue, newRow, run_newObj, grownCap]
    rfl

/-- what an append leaves -/
structure Apd (c c' : Cx) (who : Who) (fresh sz : Nat) (zs : Row) (md : Mode) (t : Nat) (v : Value) : Prop where
  ext : Ext c c'
  wf : WF c'
  ep : c'.ep = c.ep + t
  bl : ∀ k, k ≠ fresh → c'.bl k = c.bl k
  bg : c'.bg = c.bg
  same : ∀ who', who' ≠ who → Same c c' who'
  row : EOk c' fresh (.row md sz zs)
  val : VL c' (.sh false fresh sz 0 zs.length) v

theorem EOk.of_row {c : Cx} {i b cap sz : Nat} {xs : Row} {md : Mode} (h1 : c.bl i = some b) (h2 : c.rl i = xs.length) (h3 : md ≠ .ro) (h : RowOk c (.lent i) b cap sz xs md) : EOk c i (.row md sz xs) := by
  refine ⟨b, cap, h1, h2, ?_⟩
  cases md with
  | ro => exact absurd rfl h3
  | own => exact h
  | excl => exact h

theorem Mode.lv_mono (m : Mode) {a b : Nat} (h : a ≤ b) : m.lv a ≤ m.lv b := by
  cases m <;> simp [Mode.lv, h]

theorem Mode.lv_le (m : Mode) (a : Nat) : m.lv a ≤ a := by
  cases m <;> simp [Mode.lv]

/-- the cells of what was there and what came behind it -/
theorem RowC.append {c : Cx} {sz : Nat} {xs ys : Row} {cur : Array Value} {l : List Value} {u : Value} {P : Program} {nv : List Value} (hc : RowC c sz xs cur) (hn : News P c sz ys u nv)
    (h1 : ∀ p, p < xs.length * sz → l[p]? = cur[p]?) (h2 : ∀ p, p < ys.length * sz → l[xs.length * sz + p]? = nv[p]?) : RowC c sz (xs ++ ys) l.toArray := by
  refine ⟨fun x hx => ?_, fun k x j d hx hd => ?_⟩
  · rcases List.mem_append.1 hx with hx | hx
    · exact hc.hsz x hx
    · exact hn.hsz x hx
  · rw [List.getElem?_append] at hx
    split at hx
    · obtain ⟨v, q1, q2⟩ := hc.hc k x j d hx hd
      exact ⟨v, by rw [List.getElem?_toArray, h1 _ (idx_lt hc.hsz hx hd)]; exact q1, q2⟩
    · rename_i hk
      obtain ⟨v, q1, q2⟩ := hn.rd _ x j d hx hd
      refine ⟨v, ?_, q2⟩
      rw [← h2 _ (idx_lt hn.hsz hx hd)] at q1
      rw [List.getElem?_toArray, ← q1]
      congr 1
      have : k = xs.length + (k - xs.length) := by omega
      rw [this, Nat.add_mul]
      simp only [Nat.add_sub_cancel_left]
      omega

theorem append_new {P : Program} {T : Tab} {c : Cx} {m : Mem} (hT : TabOk P T) (hm : MemOk c m) {t t2 e ty : TypeId} {te : TI} (hu : P.underlying t = some (.slice e)) (hte : T e = some te) (h2 : (isSlT T t2 || isStrT T t2) = true)
    {ys : Row} {u : Value} {nv : List Value} (hn : News P c te.size ys u nv) {fresh : Nat} (hf : m.L[fresh]? = some none) {a : Option Addr} {cap : Nat} {xs : Row} {olds : List Value} {md : Mode} (hmd : md ≠ .ro)
    (ho : ∀ w, w.heap = c.w.heap → (Builtin.firstCells te.size xs.length (.slice a xs.length cap)).run P w = .ok olds.toArray w) (hlen : olds.length = xs.length * te.size) (hoc : RowC c te.size xs olds.toArray) (ho1 : ∀ v ∈ olds, v.oneCell' = true)
    (hgrow : cap < xs.length + ys.length) (hpos : 0 < te.size) (tk : Nat)
    (hbytes : (xs.length + ys.length) * te.bytes ≤ 140737488355328) (h63 : xs.length + ys.length ≤ 9223372036854775807) :
    ∃ c' v, (Builtin.append_ #[t, t2] ty #[.slice a xs.length cap, u]).run P c.w = .ok v c'.w ∧ ∀ who, Apd c c' who fresh te.size (xs ++ ys) md tk v := by
  obtain ⟨z, ⟨iz, dz, fz'⟩, hrun⟩ := append_grow (ty := ty) hT hu hte h2 hn ho hgrow hbytes h63
  have hge := grownCap_ge c.w (xs.length + ys.length) cap e
  have hgm := grownCap_le_maxLen c.w (xs.length + ys.length) cap e h63
  obtain ⟨ncap, hnc⟩ : ∃ n, n = grownCap c.w (xs.length + ys.length) cap e := ⟨_, rfl⟩
  rw [← hnc] at hge hgm hrun
  obtain ⟨hz, hzl⟩ := zerosOk_all2 (c := c) fz'.zeros
  obtain ⟨row, hrow⟩ : ∃ r : Array Value, r = olds.toArray ++ nv.toArray ++ Builtin.zeroCells z.cells (ncap - (xs.length + ys.length)) := ⟨_, rfl⟩
  rw [← hrow] at hrun
  have hzc : z.cells.size = te.size := fz'.zsize
  have hzcs : (Builtin.zeroCells z.cells (ncap - (xs.length + ys.length))).size = (ncap - (xs.length + ys.length)) * te.size := by
    rw [size_zeroCells, hzc]
  have hrl : row.size = ncap * te.size := by
    rw [hrow]
    simp only [Array.size_append, List.size_toArray, hlen, hn.len, hzcs]
    rw [← Nat.add_mul, ← Nat.add_mul]
    congr 1; omega
  have hrc : RowC c te.size (xs ++ ys) row := by
    have e1 : row = row.toList.toArray := rfl
    rw [e1]
    refine hoc.append hn (fun p hp => ?_) (fun p hp => ?_)
    · rw [hrow]
      simp only [Array.toList_append, List.getElem?_append, List.length_append, hlen]
      rw [if_pos (by omega), if_pos hp, List.getElem?_toArray]
    · rw [hrow]
      simp only [Array.toList_append, List.getElem?_append, List.length_append, hlen]
      rw [hn.len, if_pos (by omega), if_neg (by omega)]
      congr 1; omega
  have hone : ∀ v ∈ row.toList, v.oneCell' = true := by
    intro v hv
    rw [hrow] at hv
    simp only [Array.toList_append, List.mem_append] at hv
    rcases hv with (hv | hv) | hv
    · exact ho1 v hv
    · exact hn.one v hv
    · exact mem_range_map (zeros_one hz hzl) (by rw [hzc]; exact hpos) v hv
  have hnw := NewW.drew_alloc c.w row e
  obtain ⟨x1, x2, x3⟩ := new_row (xs := xs ++ ys) (md := md) (f := false) hm hf hnw (by intro k _; omega) (by rw [hrl]; exact Nat.le_refl _) hone hrc (by simpa using hge) hgm hpos (by simp) hmd rfl
  have dr : Drawn (c.new (c.w.drew.alloc (.cells row e)) fresh (md.lv ((xs ++ ys).length * te.size)) (xs ++ ys).length) { c.new (c.w.drew.alloc (.cells row e)) fresh (md.lv ((xs ++ ys).length * te.size)) (xs ++ ys).length with ep := c.ep + tk } :=
    ⟨rfl, rfl, rfl, rfl, rfl, rfl, rfl, rfl, rfl, Nat.le_add_right _ _⟩
  refine ⟨{ c.new (c.w.drew.alloc (.cells row e)) fresh (md.lv ((xs ++ ys).length * te.size)) (xs ++ ys).length with ep := c.ep + tk }, _, by rw [hrun]; rfl,
    fun who => ⟨x1.trans dr.ext, dr.wf x2.wf, rfl, fun k hk => by simp [Cx.new, hk], rfl, fun who' _ => ?_, ?_, ?_⟩⟩
  · exact ((new_new hm hf hnw).same hm.wf who').trans (dr.same _)
  · have := x2.l fresh (.row md te.size (xs ++ ys)) (by simp only [Mem.set]; rw [set_get, if_pos ⟨rfl, (List.getElem?_eq_some_iff.1 hf).1⟩])
    exact this.frame dr.ext (dr.same _)
  · have := x3.ext dr.ext
    simpa [hnc] using this

theorem append_in {P : Program} {T : Tab} {c : Cx} {m : Mem} (hT : TabOk P T) (hm : MemOk c m) {t t2 e ty : TypeId} {te : TI} (hu : P.underlying t = some (.slice e)) (hte : T e = some te) (h2 : (isSlT T t2 || isStrT T t2) = true)
    {ys : Row} {u : Value} {nv : List Value} (hn : News P c te.size ys u nv) {fresh : Nat} (hf : m.L[fresh]? = some none) {who : Who} (hwho : ∀ g, who ≠ .gobj g) {b cap0 cap : Nat} {xs : Row} {md : Mode}
    (hr : RowOk c who b cap0 te.size xs md) (hcap : xs.length ≤ cap) (hmax : cap ≤ maxLen) (hsize : ∀ ty n, c.w.shape? b = some (ty, n) → cap * te.size ≤ n) (tk : Nat)
    (hbytes : (xs.length + ys.length) * te.bytes ≤ 140737488355328) (h63 : xs.length + ys.length ≤ 9223372036854775807) :
    ∃ c' v, (Builtin.append_ #[t, t2] ty #[.slice (some ⟨b, 0, none⟩) xs.length cap, u]).run P c.w = .ok v c'.w ∧ Apd c c' who fresh te.size (xs ++ ys) md tk v := by
  obtain ⟨⟨cur, ety, fz, q1, q2, q3, q4, q4'⟩, q5, q6, q7, q8, q9, q10⟩ := hr
  have hblt := MemOk.lt_own hm.wf q8
  have hsz := hsize _ _ (shape_of q1)
  have hblf : c.bl fresh = none := hm.ln fresh (.inl hf)
  have hnef : ∀ k x, c.bl k = some x → k ≠ fresh := fun k x hk e => by rw [e, hblf] at hk; cases hk
  have hbg : ∀ g, c.bg g ≠ some b := fun g hg => by
    have := hm.bgown hg
    rw [q8] at this
    injection this with this
    exact hwho g this
  rcases Nat.lt_or_ge cap (xs.length + ys.length) with hgrow | hroom
  · -- a new block
    have hle : xs.length * te.size ≤ cur.size := Nat.le_trans (Nat.mul_le_mul_right _ hcap) hsz
    have hlen : (cur.toList.take (xs.length * te.size)).length = xs.length * te.size := by simp; omega
    obtain ⟨c', v, z1, z2⟩ := append_new (ty := ty) hT hm hu hte h2 hn hf (a := some ⟨b, 0, none⟩) (xs := xs) (cap := cap) (olds := cur.toList.take (xs.length * te.size)) q9 (fun w hw => by
      refine run_firstCells_some (P := P) w te.size xs.length ⟨b, 0, none⟩ xs.length cap _ hlen (fun j v hj => ?_)
      have hjl := (List.getElem?_eq_some_iff.1 hj).1
      rw [hlen] at hjl
      rw [List.getElem?_take, if_pos hjl, Array.getElem?_toList] at hj
      rw [add_off, Nat.zero_add]
      have := cell_of q1 j
      rw [hj] at this
      simpa [World.cell?, hw] using this) hlen ⟨q4.hsz, fun k x j d hx hd => by
        obtain ⟨v, z1, z2⟩ := q4.hc k x j d hx hd
        refine ⟨v, ?_, z2⟩
        rw [List.getElem?_toArray, List.getElem?_take, if_pos (idx_lt q4.hsz hx hd), Array.getElem?_toList]; exact z1⟩ (fun v hv => q4' v (List.mem_of_mem_take hv)) hgrow q7 tk hbytes h63
    exact ⟨c', v, z1, z2 who⟩
  · -- there is room
    have hrun := append_room (ty := ty) hT hu hte h2 hn q1 q2 hroom hsz
    have hlen2 : (xs.length + ys.length) * te.size ≤ cap * te.size := Nat.mul_le_mul_right _ hroom
    rw [Nat.add_mul] at hlen2
    obtain ⟨row, hrow⟩ : ∃ r : Array Value, r = (splice cur.toList (xs.length * te.size) nv).toArray := ⟨_, rfl⟩
    rw [← hrow] at hrun
    have hpos : ∀ p, p < xs.length * te.size → row[p]? = cur[p]? := by
      intro p hp
      rw [hrow]
      simp only [List.getElem?_toArray, splice, List.append_assoc]
      rw [List.getElem?_append, if_pos (by simp; omega), List.getElem?_take, if_pos hp, Array.getElem?_toList]
    have hpos2 : ∀ p, p < ys.length * te.size → row.toList[xs.length * te.size + p]? = nv[p]? := by
      intro p hp
      rw [hrow]
      have e0 : (cur.toList.take (xs.length * te.size)).length = xs.length * te.size := by simp; omega
      simp only [splice, List.append_assoc]
      rw [List.getElem?_append, if_neg (by rw [e0]; omega), e0, List.getElem?_append, if_pos (by rw [hn.len]; omega)]
      congr 1; omega
    have hrs : row.size = cur.size := by
      rw [hrow]
      simp only [splice, List.size_toArray, List.length_append, List.length_take, List.length_drop, Array.length_toList, hn.len]
      omega
    have hlvle : c.lv b ≤ xs.length * te.size := by rw [q10]; exact md.lv_le _
    let c' : Cx :=
      { w := c.w.setRow b row, lv := fun x => if x = b then md.lv ((xs ++ ys).length * te.size) else c.lv x, own := fun x => if x = b then some (.lent fresh) else c.own x,
        bl := fun k => if k = fresh then some b else c.bl k, bg := c.bg, rl := fun k => if k = fresh then (xs ++ ys).length else c.rl k, ep := c.ep + tk }
    have p : Put c c' b cur row ety fz := ⟨q1, rfl, hrs, fun o ho => hpos o (by omega), fun x hx => by simp [c', hx], by
        simp only [c', if_true, q10]
        exact md.lv_mono (Nat.mul_le_mul_right _ (by simp)), fun x hx => by simp [c', hx], by rw [q8]; simp,
      fun k x hk => by simp only [c', if_neg (hnef k x hk)]; exact hk, fun k x hk => by simp only [c', if_neg (hnef k x hk)], rfl, Nat.le_add_right _ _, fun _ g hg => absurd hg (hbg g)⟩
    have hrc : RowC c' te.size (xs ++ ys) row := by
      have := q4.append hn (l := row.toList) (fun p hp => by rw [Array.getElem?_toList]; exact hpos p hp) hpos2
      exact this.ext p.ext
    have hone : ∀ v ∈ row.toList, v.oneCell' = true := by
      intro v hv
      rw [hrow] at hv
      simp only [splice, List.mem_append] at hv
      rcases hv with (hv | hv) | hv
      · exact q4' v (List.mem_of_mem_take hv)
      · exact hn.one v hv
      · exact q4' v (List.mem_of_mem_drop hv)
    have hrok : RowOk c' (.lent fresh) b cap te.size (xs ++ ys) md := ⟨⟨row, ety, fz, p.at, by rw [hrs]; exact q2, by rw [hrs]; exact hsz, hrc, hone⟩, by simpa using hroom, hmax, q7, by simp [c'], q9, by simp [c']⟩
    refine ⟨c', _, hrun, ⟨p.ext, p.wf hm.wf, rfl, fun k hk => by simp [c', hk], rfl, fun who' hw => p.same (by rw [q8]; simpa using fun e => hw e.symm), .of_row (by simp [c']) (by simp [c']) q9 hrok, ?_⟩⟩
    refine .sh (b := b) (by simp [c']) (by simp [c']) ⟨⟨b, 0, none⟩, cap, ety, row.size, by simp, shape_of p.at, by simpa using hroom, hmax, by rw [hrs, Nat.zero_add]; exact hsz, by simp, .inl (by simp)⟩

end Go.Eng
end

/- Append, as the evaluator has it. -/
section
namespace Go.Eng
open Go Go.RowKit
variable [Inhabited Pkg]
set_option linter.unusedSectionVars false

theorem append_none {P : Program} {T : Tab} {c : Cx} (hT : TabOk P T) {t t2 e ty : TypeId} {te : TI} (hu : P.underlying t = some (.slice e)) (hte : T e = some te) (h2 : (isSlT T t2 || isStrT T t2) = true)
    {u : Value} {nv : List Value} (hn : News P c te.size [] u nv) {a : Option Addr} {len cap : Nat} (hcap : len ≤ cap) :
    (Builtin.append_ #[t, t2] ty #[.slice a len cap, u]).run P c.w = .ok (.slice a len cap) c.w := by
  obtain ⟨ie, dse, z, fe⟩ := hT.facts hte
  have hint : (∃ e2, P.underlying t2 = some (.slice e2)) ∨ P.underlying t2 = some .string := by
    simp only [Bool.or_eq_true] at h2
    rcases h2 with h2 | h2
    · obtain ⟨e2, hk⟩ := isSlT_some h2
      exact .inl ⟨_, kindT_slice hT hk⟩
    · exact .inr (kindT_str hT (isStrT_some h2))
  have hnv : nv = [] := by
    have := hn.len
    simpa using this
  subst hnv
  have hl : ∀ w, (Builtin.lenOf u).run P w = .ok 0 w := hn.lenOf
  have hc : ∀ w, w.heap = c.w.heap → (Builtin.firstCells te.size 0 u).run P w = .ok #[] w := hn.cells
  rcases hint with ⟨e2, hd2⟩ | hd2
  all_goals
    simp only [Builtin.append_, List.getElem?_toArray, List.getElem?_cons_zero, List.getElem?_cons_succ, Sem.run_bind, run_underlying hu, run_underlying hd2, fe.sizeOf, Result.andThen_ok, Sem.run_pure, Bool.false_eq_true, if_false, hl, Nat.add_zero, if_pos hcap,
      Bool.not_false, if_true, hc c.w rfl]
    cases a with
    | none => rfl
    | some a => rfl

theorem list_nil_val {c : Cx} {sz : Nat} {v : Value} (h : VL c (.dat (.list .nil sz [])) v) : v = .slice none 0 0 := by
  cases h with
  | dat h =>
    cases h with
    | nil => rfl
    | void _ _ hk => exact absurd rfl hk
    | list _ _ _ _ _ _ _ hk _ => exact absurd rfl hk

/-- a row that an append has laid goes into memory -/
theorem Apd.fresh {c c' : Cx} {m : Mem} {fresh sz : Nat} {zs : Row} {md : Mode} {v : Value} (hm : MemOk c m) (hf : m.L[fresh]? = some none) (h : ∀ who, Apd c c' who fresh sz zs md 0 v) : MemOk c' (m.set (.loc fresh) (.row md sz zs)) := by
  have h0 := h (.gobj 0)
  refine hm.fresh hf h0.ext h0.wf h0.ep h0.bl h0.bg (fun who => ?_) h0.row
  by_cases hw : who = .gobj 0
  · exact (h (.gobj 1)).same who (by rw [hw]; simp)
  · exact h0.same who hw

/-- what was there, as the machine reads it -/
theorem olds_ok {P : Program} {c : Cx} {b o sz cap : Nat} {xs : Row} {vs : List Value} (hc : Cells c b o sz xs vs) :
    (∀ w, w.heap = c.w.heap → (Builtin.firstCells sz xs.length (.slice (some ⟨b, o, none⟩) xs.length cap)).run P w = .ok vs.toArray w) ∧ RowC c sz xs vs.toArray := by
  refine ⟨fun w hw => run_firstCells_some (P := P) w sz xs.length ⟨b, o, none⟩ xs.length cap vs hc.len (fun j v hj => ?_), ⟨hc.hsz, fun k x j d h1 h2 => ?_⟩⟩
  · rw [add_off]
    have := hc.cell j v hj
    simpa [World.cell?, hw] using this
  · obtain ⟨v, z1, z2⟩ := hc.rd k x j d h1 h2
    exact ⟨v, by rw [List.getElem?_toArray]; exact z1, z2⟩

/-- the row in cell j of g is let go -/
theorem drop_row {c : Cx} {m : Mem} {g j : Nat} {cs : List AV} {a : AV} (h : MemOk c m) (hg : m.G[g]? = some (.obj cs)) (hj : cs[j]? = some a) : MemOk c (m.setRow g j .dead) :=
  h.setRow hg hj (.refl _) h.wf rfl rfl rfl (fun _ _ => .refl _ _) rfl (fun _ v _ _ _ => .dead v)

theorem GOk.frame_but {c c' : Cx} {g j0 : Nat} {cs : List AV} (x : Ext c c') (s : Same c c' (.gobj g)) (sr : ∀ j, j ≠ j0 → Same c c' (.grow g j)) (hd : cs[j0]? = some .dead) (h : GOk c g (.obj cs)) : GOk c' g (.obj cs) := by
  obtain ⟨b, cur, ty, h1, h2, h3, h4, h5, h6⟩ := h
  obtain ⟨s1, s2, s3⟩ := s b h3
  refine ⟨b, cur, ty, x.bg _ _ h1, s1.trans h2, s2, s3.trans h4, h5, fun j a ha => ?_⟩
  obtain ⟨k1, v, k2, k3⟩ := h6 j a ha
  refine ⟨k1, v, k2, ?_⟩
  by_cases hj : j = j0
  · subst hj
    rw [hd] at ha
    injection ha with ha
    subst ha
    exact .dead v
  · exact k3.frame x (sr j hj)

theorem Apd.two {c c' : Cx} {m : Mem} {i fresh sz : Nat} {zs : Row} {md : Mode} {v : Value} {e0 e' : Ent} (z2 : Apd c c' (.lent i) fresh sz zs md 0 v) (hm : MemOk c m) (hi : m.L[i]? = some (some e0)) (hf : m.L[fresh]? = some none)
    (he : EOk c' i e') : MemOk c' ((m.set (.loc i) e').set (.loc fresh) (.row md sz zs)) := by
  have hne : i ≠ fresh := fun e => by rw [e, hf] at hi; cases hi
  have hil := (List.getElem?_eq_some_iff.1 hi).1
  have hfl := (List.getElem?_eq_some_iff.1 hf).1
  refine hm.of z2.ext z2.wf (by rw [z2.ep]; exact hm.ep) (fun k e hk => ?_) (fun k hk => ?_) (fun g e hg => ?_) (fun g hg => by rw [z2.bg]; exact hm.gn g hg)
  · simp only [Mem.set] at hk
    rw [set_get] at hk
    split at hk
    · rename_i h1
      obtain ⟨rfl, _⟩ := h1
      simp only [Option.some.injEq] at hk
      subst hk
      exact .inr z2.row
    · rename_i h1
      rw [set_get] at hk
      split at hk
      · rename_i h3
        obtain ⟨rfl, _⟩ := h3
        simp only [Option.some.injEq] at hk
        subst hk
        exact .inr he
      · rename_i h3
        exact .inl ⟨hk, z2.same _ (by simp; intro e; exact h3 ⟨e.symm, hil⟩)⟩
  · simp only [Mem.set, List.length_set] at hk
    rw [set_get] at hk
    split at hk
    · rename_i h1
      rcases hk with hk | hk
      · cases hk
      · obtain ⟨rfl, _⟩ := h1
        omega
    · rename_i h1
      rw [set_get] at hk
      split at hk
      · rename_i h3
        obtain ⟨rfl, _⟩ := h3
        rcases hk with hk | hk
        · cases hk
        · omega
      · have hkf : k ≠ fresh := fun e => h1 ⟨e.symm, by simpa using hfl⟩
        rw [z2.bl k hkf]
        exact hm.ln k hk
  · exact .inl ⟨hg, z2.same _ (by simp), fun j => z2.same _ (by simp)⟩

theorem append_ok {P : Program} {T : Tab} {c : Cx} {m m' : Mem} (hT : TabOk P T) (hm : MemOk c m) {fresh : Nat} (hf : m.L[fresh]? = some none) {t t2 ty : TypeId} {X Y res : AV} {v u : Value}
    (h : append T m fresh t t2 X Y = some (res, m')) (hx : VL c X v) (hy : VL c Y u) : Does P c (Builtin.append_ #[t, t2] ty #[v, u]) m' res := by
  unfold append at h
  split at h
  · rename_i ti hti
    split at h
    · rename_i e he
      have hund : P.underlying t = some (.slice e) := kindT_slice hT (by simp only [kindT, hti, he])
      split at h
      · rename_i te hte
        split at h
        · rename_i hcond
          obtain ⟨hc1, hc2, hc3⟩ := hcond
          split at h
          · rename_i ys hys
            obtain ⟨nv, hn⟩ := news_ok hm hys hy
            split at h
            · -- nil
              rename_i sz0
              have := list_nil_val hx
              subst this
              dsimp only at h
              split at h
              · rename_i hb
                obtain ⟨hb1, hb2⟩ := hb
                split at h
                · simp only [Option.some.injEq, Prod.mk.injEq] at h
                  obtain ⟨rfl, rfl⟩ := h
                  exact ⟨c, _, append_none hT hund hte hc3 hn (Nat.le_refl _), .refl _, hm, .dat (.nil _)⟩
                · rename_i hne
                  simp only [Option.some.injEq, Prod.mk.injEq] at h
                  obtain ⟨rfl, rfl⟩ := h
                  have hpos : 0 < ys.length := List.length_pos_iff.2 hne
                  obtain ⟨c', v, z1, z2⟩ := append_new (ty := ty) (xs := []) (olds := []) (a := none) (cap := 0) (md := .excl) hT hm hund hte hc3 hn hf (by simp) (fun w _ => run_firstCells_none w _ _ _ _) (by simp) ⟨by simp, by simp⟩ (by simp) (by simpa using hpos) hc2 0 (by simpa using hb1) (by simpa using hb2)
                  exact ⟨c', v, z1, (z2 (.gobj 0)).ext, Apd.fresh hm hf z2, by simpa using (z2 (.gobj 0)).val⟩
              · cases h
            · -- a list that is as long as its room
              rename_i sz xs
              dsimp only at h
              split at h
              · rename_i hb
                obtain ⟨hsz, hb1, hb2⟩ := hb
                subst hsz
                cases hx with
                | dat hd =>
                  have hx0 : VL c (.dat (.list .full te.size xs)) v := .dat hd
                  cases hd with
                  | void _ ad hk =>
                    split at h
                    · simp only [Option.some.injEq, Prod.mk.injEq] at h
                      obtain ⟨rfl, rfl⟩ := h
                      exact ⟨c, _, append_none hT hund hte hc3 hn (Nat.le_refl _), .refl _, hm, hx0⟩
                    · rename_i hne
                      simp only [Option.some.injEq, Prod.mk.injEq] at h
                      obtain ⟨rfl, rfl⟩ := h
                      have hpos : 0 < ys.length := List.length_pos_iff.2 hne
                      obtain ⟨c', v, z1, z2⟩ := append_new (ty := ty) (xs := []) (olds := []) (a := some ad) (cap := 0) (md := .excl) hT hm hund hte hc3 hn hf (by simp) (fun w hw => run_firstCells_some (P := P) w te.size 0 ad 0 0 [] (by simp) (by simp)) (by simp) ⟨by simp, by simp⟩ (by simp) (by simpa using hpos) hc2 0 (by simpa using hb1) (by simpa using hb2)
                      exact ⟨c', v, z1, (z2 (.gobj 0)).ext, Apd.fresh hm hf z2, by simpa using (z2 (.gobj 0)).val⟩
                  | @list _ _ _ b o cap vs0 a1 a2 a3 a4 a5 a6 a7 a8 =>
                    have hcap := a8 rfl
                    subst hcap
                    split at h
                    · simp only [Option.some.injEq, Prod.mk.injEq] at h
                      obtain ⟨rfl, rfl⟩ := h
                      exact ⟨c, _, append_none hT hund hte hc3 hn (Nat.le_refl _), .refl _, hm, hx0⟩
                    · rename_i hne
                      simp only [Option.some.injEq, Prod.mk.injEq] at h
                      obtain ⟨rfl, rfl⟩ := h
                      have hpos : 0 < ys.length := List.length_pos_iff.2 hne
                      obtain ⟨ws, hw⟩ := cells_mk (c := c) (b := b) (o := o) a1 (fun k x j d h1 h2 => ⟨vs0 k j, a5 k x j d h1 h2, a6 k x j d h1 h2⟩)
                      obtain ⟨o1, o2⟩ := olds_ok (P := P) (cap := xs.length) hw
                      obtain ⟨c', v, z1, z2⟩ := append_new (ty := ty) (md := .excl) hT hm hund hte hc3 hn hf (by simp) o1 hw.len o2 hw.one (by omega) hc2 0 hb1 hb2
                      refine ⟨c', v, z1, (z2 (.gobj 0)).ext, Apd.fresh hm hf z2, ?_⟩
                      have := (z2 (.gobj 0)).val
                      rw [List.length_append] at this
                      exact this
              · cases h
            · -- a row of one's own
              rename_i full i sz off len
              dsimp only at h
              split at h
              · rename_i hsz
                split at h
                · rename_i md sz' xs hr
                  split at h
                  · rename_i hsz'
                    split at h
                    · rename_i hb
                      obtain ⟨hb0, hb1, hb2⟩ := hb
                      subst hsz' hsz
                      obtain ⟨hi, b, cap0, q1, q2, q3, q4, q5⟩ := sh_row hm hx hr
                      have hlen := sub_length xs off len q4
                      have hrd : rd m (.sh full i te.size off len) = some (false, te.size, (xs.drop off).take len) := by simp [rd, hr]
                      split at h
                      · rename_i hfull
                        subst hfull
                        obtain ⟨ad, cap, sty, sn, rfl, p1, p2, p3, p4, p5, p6⟩ := q5
                        have hcl := p5 rfl
                        subst hcl
                        split at h
                        · simp only [Option.some.injEq, Prod.mk.injEq] at h
                          obtain ⟨rfl, rfl⟩ := h
                          exact ⟨c, _, append_none hT hund hte hc3 hn (Nat.le_refl _), .refl _, hm, hx⟩
                        · rename_i hne
                          simp only [Option.some.injEq, Prod.mk.injEq] at h
                          obtain ⟨rfl, rfl⟩ := h
                          have hpos : 0 < ys.length := List.length_pos_iff.2 hne
                          rcases rd_ok hm hrd hx with ⟨hw, _⟩ | ⟨a, cap', vs, e1, hsp, _, hc⟩
                          · cases hw
                          · obtain ⟨b', o', sp⟩ := a
                            have hsp : sp = none := by
                              rcases hsp with h | ⟨_, _, _, h⟩
                              · exact h
                              · cases h
                            subst hsp
                            injection e1 with e1 e2 e3
                            injection e1 with e1
                            subst e1 e3
                            obtain ⟨o1, o2⟩ := olds_ok (P := P) (cap := cap) hc
                            obtain ⟨c', v, z1, z2⟩ := append_new (ty := ty) (md := .excl) hT hm hund hte hc3 hn hf (by simp) o1 hc.len o2 hc.one (by rw [hlen]; omega) hc2 0 (by rw [hlen]; exact hb1) (by rw [hlen]; exact hb2)
                            rw [hlen] at z1
                            refine ⟨c', v, z1, (z2 (.gobj 0)).ext, Apd.fresh hm hf z2, ?_⟩
                            have := (z2 (.gobj 0)).val
                            rw [List.length_append, hlen] at this
                            exact this
                      · rename_i hfull
                        split at h
                        · rename_i hin
                          obtain ⟨rfl, rfl, hmd⟩ := hin
                          simp only [Option.some.injEq, Prod.mk.injEq] at h
                          obtain ⟨rfl, rfl⟩ := h
                          have hrow : RowOk c (.lent i) b cap0 te.size xs md := by
                            cases md with
                            | ro => exact absurd rfl hmd
                            | own => exact q3
                            | excl => exact q3
                          obtain ⟨ad, cap, sty, sn, rfl, p1, p2, p3, p4, p5, p6⟩ := q5
                          have had : ad = ⟨b, 0, none⟩ := by
                            rcases p6 with p6 | ⟨_, _, p6, _⟩
                            · simpa using p6
                            · exact absurd rfl p6
                          subst had
                          obtain ⟨c', v, z1, z2⟩ := append_in (ty := ty) hT hm hund hte hc3 hn hf (who := .lent i) (fun g e => by cases e) hrow p2 p3 (fun ty n hs => by
                            rw [p1] at hs
                            simp only [Option.some.injEq, Prod.mk.injEq] at hs
                            rw [← hs.2, ← Nat.zero_add cap]; exact p4) 0 hb1 hb2
                          refine ⟨c', v, z1, z2.ext, z2.two hm hi hf ?_, by have := z2.val; rwa [List.length_append] at this⟩
                          cases md with
                          | ro => exact absurd rfl hmd
                          | own => exact ⟨b, cap0, z2.ext.bl _ _ q1, (z2.ext.rl _ _ q1).trans q2, hrow.rd.stay z2.ext.stay, hc2⟩
                          | excl => trivial
                        · cases h
                    · cases h
                  · cases h
                · cases h
              · cases h
            · -- a row in everybody's object
              rename_i full g j ep sz off len
              dsimp only at h
              split at h
              · rename_i hsz
                split at h
                · rename_i md sz' xs hr
                  split at h
                  · rename_i hsz'
                    split at h
                    · rename_i hb
                      obtain ⟨hb0, hb1, hb2⟩ := hb
                      subst hsz' hsz
                      obtain ⟨cs, b, cap0, hg, hj, q3, q4, q5, _⟩ := gh_row hm hx hr
                      have hlen := sub_length xs off len q4
                      have hrd : rd m (.gh full g j ep te.size off len) = some (false, te.size, (xs.drop off).take len) := by simp [rd, hr]
                      obtain ⟨ad, cap, sty, sn, rfl, p1, p2, p3, p4, p5, p6⟩ := q5
                      split at h
                      · rename_i hfull
                        subst hfull
                        have hcl := p5 rfl
                        subst hcl
                        split at h
                        · simp only [Option.some.injEq, Prod.mk.injEq] at h
                          obtain ⟨rfl, rfl⟩ := h
                          exact ⟨c, _, append_none hT hund hte hc3 hn (Nat.le_refl _), .refl _, hm, hx⟩
                        · rename_i hne
                          simp only [Option.some.injEq, Prod.mk.injEq] at h
                          obtain ⟨rfl, rfl⟩ := h
                          have hpos : 0 < ys.length := List.length_pos_iff.2 hne
                          rcases rd_ok hm hrd hx with ⟨hw, _⟩ | ⟨a, cap', vs, e1, hsp, _, hc⟩
                          · cases hw
                          · obtain ⟨b', o', sp⟩ := a
                            have hsp : sp = none := by
                              rcases hsp with h | ⟨_, _, _, h⟩
                              · exact h
                              · cases h
                            subst hsp
                            injection e1 with e1 e2 e3
                            injection e1 with e1
                            subst e1 e3
                            obtain ⟨o1, o2⟩ := olds_ok (P := P) (cap := cap) hc
                            obtain ⟨c', v, z1, z2⟩ := append_new (ty := ty) (md := .excl) hT hm hund hte hc3 hn hf (by simp) o1 hc.len o2 hc.one (by rw [hlen]; omega) hc2 0 (by rw [hlen]; exact hb1) (by rw [hlen]; exact hb2)
                            rw [hlen] at z1
                            refine ⟨c', v, z1, (z2 (.gobj 0)).ext, Apd.fresh hm hf z2, ?_⟩
                            have := (z2 (.gobj 0)).val
                            rw [List.length_append, hlen] at this
                            exact this
                      · rename_i hfull
                        split at h
                        · rename_i hin
                          obtain ⟨rfl, rfl, hmd⟩ := hin
                          simp only [Option.some.injEq, Prod.mk.injEq] at h
                          obtain ⟨rfl, rfl⟩ := h
                          have had : ad = ⟨b, 0, none⟩ := by
                            rcases p6 with p6 | ⟨_, _, p6, _⟩
                            · simpa using p6
                            · exact absurd rfl p6
                          subst had
                          obtain ⟨c', v, z1, z2⟩ := append_in (ty := ty) hT hm hund hte hc3 hn hf (who := .grow g j) (fun g e => by cases e) q3 p2 p3 (fun ty n hs => by
                            rw [p1] at hs
                            simp only [Option.some.injEq, Prod.mk.injEq] at hs
                            rw [← hs.2, ← Nat.zero_add cap]; exact p4) 1 hb1 hb2
                          have hm1 := drop_row hm hg hj
                          rw [mem_setRow hg] at hm1 ⊢
                          have hgl := (List.getElem?_eq_some_iff.1 hg).1
                          have hfl := (List.getElem?_eq_some_iff.1 hf).1
                          refine ⟨c', v, z1, z2.ext, ?_, by have := z2.val; rwa [List.length_append] at this⟩
                          refine hm1.of z2.ext z2.wf (by rw [z2.ep, hm.ep]; rfl) (fun k e hk => ?_) (fun k hk => ?_) (fun g' e hg' => ?_) (fun g' hg' => by rw [z2.bg]; exact hm1.gn g' hg')
                          · simp only [Mem.set, Mem.tick] at hk
                            rw [set_get] at hk
                            split at hk
                            · rename_i h1
                              obtain ⟨rfl, _⟩ := h1
                              simp only [Option.some.injEq] at hk
                              subst hk
                              exact .inr z2.row
                            · exact .inl ⟨hk, z2.same _ (by simp)⟩
                          · simp only [Mem.set, Mem.tick, List.length_set] at hk
                            rw [set_get] at hk
                            split at hk
                            · rcases hk with hk | hk
                              · cases hk
                              · omega
                            · rename_i h1
                              have hkf : k ≠ fresh := fun e => h1 ⟨e.symm, hfl⟩
                              rw [z2.bl k hkf]
                              exact hm1.ln k hk
                          · simp only [Mem.set, Mem.tick] at hg'
                            by_cases hgg : g' = g
                            · subst hgg
                              right
                              have hok := hm1.g g' e hg'
                              simp only [set_get, hgl, and_true, if_true, Option.some.injEq] at hg'
                              subst hg'
                              exact hok.frame_but z2.ext (z2.same _ (by simp)) (fun j' hj' => z2.same _ (by simpa using hj')) (by rw [set_get, if_pos ⟨rfl, (List.getElem?_eq_some_iff.1 hj).1⟩])
                            · exact .inl ⟨hg', z2.same _ (by simp), fun j' => z2.same _ (by simp [hgg])⟩
                        · cases h
                    · cases h
                  · cases h
                · cases h
              · cases h
            · cases h
          · cases h
        · cases h
      · cases h
    · cases h
  · cases h

end Go.Eng
end

/- Stores. -/
section
namespace Go.Eng
open Go Go.RowKit
variable [Inhabited Pkg]
set_option linter.unusedSectionVars false

def DoesU (P : Program) (c : Cx) (s : Sem Unit) (m' : Mem) : Prop := ∃ c', s.run P c.w = .ok () c'.w ∧ Ext c c' ∧ MemOk c' m'

theorem splice_get {α : Type} (l ys : List α) (o p : Nat) (h : o + ys.length ≤ l.length) : (splice l o ys)[p]? = if o ≤ p ∧ p < o + ys.length then ys[p - o]? else l[p]? := by
  have e : (l.take o).length = o := by simp; omega
  unfold splice
  rw [List.append_assoc, List.getElem?_append, e]
  split
  · rename_i h1
    rw [if_neg (by omega), List.getElem?_take, if_pos h1]
  · rename_i h1
    rw [List.getElem?_append]
    split
    · rename_i h2
      rw [if_pos ⟨by omega, by omega⟩]
    · rename_i h2
      rw [if_neg (by omega), List.getElem?_drop]
      congr 1; omega

theorem splice_length {α : Type} (l ys : List α) (o : Nat) (h : o + ys.length ≤ l.length) : (splice l o ys).length = l.length := by
  simp only [splice, List.length_append, List.length_take, List.length_drop]
  omega

theorem run_storeAt {P : Program} {T : Tab} (hT : TabOk P T) {t : TypeId} {ti : TI} (ht : T t = some ti) {w : World} {b o : Nat} {v : Value} {cur : Array Value} {ty : TypeId} {fz : Nat × Nat} (hh : w.heap[b]? = some (.cells cur ty fz)) (hf : NoFrz cur.size fz)
    (hs : v.cells.size = ti.size) (hl : o + ti.size ≤ cur.size) (h1 : ∀ u ∈ v.cells.toList, u.oneCell' = true) :
    (Instr.storeAt t (.pointer (some ⟨b, o, none⟩)) v).run P w = .ok () (w.setRow b (splice cur.toList o v.cells.toList).toArray) := by
  obtain ⟨_, _, _, f⟩ := hT.facts ht
  have := run_stores P b o ty fz v.cells.toList 0 cur w hh hf (by simp only [Nat.add_zero, Array.length_toList, hs]; exact hl) h1
  simp only [Nat.add_zero] at this
  have hne : ¬ (v.cells.size ≠ ti.size) := fun h => h hs
  simp only [Instr.storeAt, Instr.sureAddr, storeVar, Sem.run_bind, Sem.run_pure, Result.andThen_ok, f.sizeOf, if_neg hne, this]

/-- a write into one's own block -/
def Cx.put (c : Cx) (b : Nat) (row : Array Value) (tk : Nat) : Cx := { c with w := c.w.setRow b row, ep := c.ep + tk }

theorem Cx.put_put {c : Cx} {m : Mem} (hm : MemOk c m) {b : Nat} {cur row : Array Value} {ty : TypeId} {fz : Nat × Nat} {who : Who} (hh : c.w.heap[b]? = some (.cells cur ty fz)) (hr : row.size = cur.size) (ho : c.own b = some who) (hlv : c.lv b = 0) (tk : Nat)
    (hw : tk = 0 → ∀ g, who ≠ .gobj g) : Put c (c.put b row tk) b cur row ty fz :=
  ⟨hh, rfl, hr, fun o h => by rw [hlv] at h; omega, fun _ _ => rfl, Nat.le_refl _, fun _ _ => rfl, by rw [ho]; simp, fun _ _ h => h, fun _ _ _ => rfl, rfl, Nat.le_add_right _ _, fun he g hg => by
    have h1 := hm.bgown hg
    rw [ho] at h1
    injection h1 with h1
    have : tk = 0 := by
      simp only [Cx.put] at he
      omega
    exact absurd h1 (hw this g)⟩

theorem rowC_put {c c' : Cx} (hx0 : Ext c c') {sz k off : Nat} {rs : Row} {e : List D} {ds : List D} {vs : List Value} {cur : Array Value} (h : RowC c sz rs cur) (hk : rs[k]? = some e) (hoff : off + ds.length ≤ e.length)
    (hd : All2 (fun d v => RD c'.w c'.lv d v) ds vs) (hcur : rs.length * sz ≤ cur.size) : RowC c' sz (rs.set k (splice e off ds)) (splice cur.toList (k * sz + off) vs).toArray := by
  have hel := h.hsz e (List.mem_of_getElem? hk)
  have hkl := (List.getElem?_eq_some_iff.1 hk).1
  have hvl := hd.length
  have hfit : k * sz + off + vs.length ≤ cur.toList.length := by
    have h1 : (k + 1) * sz ≤ rs.length * sz := Nat.mul_le_mul_right _ hkl
    rw [Nat.add_mul] at h1
    simp only [Array.length_toList]
    omega
  have hspl := splice_length e ds off hoff
  refine ⟨fun x hx => ?_, fun k' x j d hx hdj => ?_⟩
  · rcases List.mem_or_eq_of_mem_set hx with hx | rfl
    · exact h.hsz x hx
    · rw [hspl]; exact hel
  · rw [List.getElem?_toArray, splice_get _ _ _ _ hfit]
    rw [set_get] at hx
    split at hx
    · rename_i h1
      obtain ⟨rfl, _⟩ := h1
      simp only [Option.some.injEq] at hx
      subst hx
      rw [splice_get _ _ _ _ hoff] at hdj
      split at hdj
      · rename_i h2
        obtain ⟨v, z1, z2⟩ := hd.get _ _ hdj
        refine ⟨v, ?_, z2⟩
        rw [if_pos ⟨by omega, by omega⟩, ← z1]
        congr 1; omega
      · rename_i h2
        obtain ⟨v, z1, z2⟩ := h.hc k e j d hk hdj
        refine ⟨v, ?_, z2.stay hx0.stay⟩
        rw [if_neg (by omega), Array.getElem?_toList]
        exact z1
    · rename_i h1
      obtain ⟨v, z1, z2⟩ := h.hc k' x j d hx hdj
      refine ⟨v, ?_, z2.stay hx0.stay⟩
      have hxl := h.hsz x (List.mem_of_getElem? hx)
      have hjl := (List.getElem?_eq_some_iff.1 hdj).1
      have hne : k ≠ k' := fun e => h1 ⟨e, hkl⟩
      rw [if_neg ?_, Array.getElem?_toList]
      · exact z1
      · intro ⟨q1, q2⟩
        rcases Nat.lt_or_gt_of_ne hne with hlt | hlt
        · have : (k + 1) * sz ≤ k' * sz := Nat.mul_le_mul_right _ hlt
          rw [Nat.add_mul] at this
          omega
        · have : (k' + 1) * sz ≤ k * sz := Nat.mul_le_mul_right _ hlt
          rw [Nat.add_mul] at this
          omega

theorem store_row {P : Program} {T : Tab} {c : Cx} {m : Mem} (hT : TabOk P T) (hm : MemOk c m) {t : TypeId} {ti : TI} (ht : T t = some ti) {who : Who} (hw : ∀ g, who ≠ .gobj g) {b cap sz k off : Nat} {rs : Row} {e ds : List D} {v : Value}
    (hr : RowOk c who b cap sz rs .excl) (hk : rs[k]? = some e) (hoff : off + ti.size ≤ e.length) (hd : All2 (fun d v => RD c.w c.lv d v) ds v.cells.toList) (hs : v.cells.size = ti.size) :
    ∃ row cur ety fz, (Instr.storeAt t (.pointer (some ⟨b, k * sz + off, none⟩)) v).run P c.w = .ok () (c.put b row 0).w ∧ Put c (c.put b row 0) b cur row ety fz ∧ RowOk (c.put b row 0) who b cap sz (rs.set k (splice e off ds)) .excl := by
  obtain ⟨⟨cur, ety, fz, h1, h2, h3, h4, h4'⟩, h5, h6, h7, h8, h9, h10⟩ := hr
  have hel := h4.hsz e (List.mem_of_getElem? hk)
  have hkl := (List.getElem?_eq_some_iff.1 hk).1
  have hcur : rs.length * sz ≤ cur.size := Nat.le_trans (Nat.mul_le_mul_right _ h5) h3
  have hdl : ds.length = ti.size := by have := hd.length; simp only [Array.length_toList] at this; omega
  have h11 : (k + 1) * sz ≤ rs.length * sz := Nat.mul_le_mul_right _ hkl
  rw [Nat.add_mul] at h11
  have hone : ∀ u ∈ v.cells.toList, u.oneCell' = true := fun u hu => by
    obtain ⟨j, hj⟩ := List.getElem?_of_mem hu
    have hjl := (List.getElem?_eq_some_iff.1 hj).1
    have hdj : ds[j]? = some (ds[j]'(by have := hd.length; omega)) := by simp
    obtain ⟨u', z1, z2⟩ := hd.get j _ hdj
    rw [hj] at z1
    injection z1 with z1
    rw [z1]; exact z2.oneCell
  have hrun := run_storeAt (P := P) hT ht h1 h2 hs (o := k * sz + off) (by omega) hone
  obtain ⟨row, hrow⟩ : ∃ r, r = (splice cur.toList (k * sz + off) v.cells.toList).toArray := ⟨_, rfl⟩
  rw [← hrow] at hrun
  have hrs : row.size = cur.size := by
    rw [hrow, List.size_toArray, splice_length _ _ _ (by simp only [Array.length_toList]; omega), Array.length_toList]
  have p := Cx.put_put hm (row := row) h1 hrs h8 (by simpa [Mode.lv] using h10) 0 (fun _ => hw)
  refine ⟨row, cur, ety, fz, hrun, p, ⟨row, ety, fz, p.at, by rw [hrs]; exact h2, by rw [hrs]; exact h3, ?_, ?_⟩, by simpa using h5, h6, h7, h8, h9, h10⟩
  · have q := rowC_put p.ext h4 hk (by rw [hdl]; exact hoff) (hd.mono fun d u hu => hu.stay p.ext.stay) hcur
    rw [← hrow] at q
    exact q
  · intro u hu
    rw [hrow] at hu
    simp only [splice, List.mem_append] at hu
    rcases hu with (hu | hu) | hu
    · exact h4' u (List.mem_of_mem_take hu)
    · exact hone u hu
    · exact h4' u (List.mem_of_mem_drop hu)

theorem store_ok {P : Program} {T : Tab} {c : Cx} {m m' : Mem} (hT : TabOk P T) (hm : MemOk c m) {t : TypeId} {A X : AV} {a v : Value} (h : store T m t A X = some m') (ha : VL c A a) (hv : VL c X v) : DoesU P c (Instr.storeAt t a v) m' := by
  unfold store at h
  split at h
  · rename_i ti hti
    obtain ⟨_, _, _, f⟩ := hT.facts hti
    split at h
    · rename_i xs m0 hk0
      obtain ⟨c1, g1, hm1, hxs⟩ := mapS_keep hk0 hm hv.vals
      split at h
      · rename_i hcond
        obtain ⟨hxl, hleaf⟩ := hcond
        have hcells := vals_cells hxs hleaf
        rw [← hcells] at hxs
        have hsz : v.cells.size = ti.size := by
          have := hxs.length
          simp only [Array.length_toList] at this
          omega
        have hone : ∀ u ∈ v.cells.toList, u.oneCell' = true := fun u hu => (all2_one hxs hleaf u hu).2
        have ha1 := ha.ext g1.ext
        split at h
        · -- an object
          rename_i r off
          split at h
          · -- one's own
            rename_i i hres
            obtain rfl := res_loc hres
            split at h
            · rename_i cs hget
              have hi := get_loc hget
              split at h
              · rename_i hfit
                injection h with h
                subst h
                obtain ⟨b, cur, ty, k1, k2, k3, k4, k5⟩ := hm1.l _ _ hi
                cases ha1 with
                | ptrl hb =>
                  have : some b = some _ := k1.symm.trans hb
                  injection this with this
                  subst this
                  have hcl := k5.1
                  have hrun := run_storeAt (P := P) hT hti k2 (by intro k _; omega) hsz (o := off) (by omega) hone
                  obtain ⟨row, hrow⟩ : ∃ r, r = (splice cur.toList off v.cells.toList).toArray := ⟨_, rfl⟩
                  rw [← hrow] at hrun
                  have hrs : row.size = cur.size := by
                    rw [hrow, List.size_toArray, splice_length _ _ _ (by simp only [Array.length_toList]; omega), Array.length_toList]
                  have p := Cx.put_put hm1 (row := row) k2 hrs k3 k4 0 (fun _ g e => by cases e)
                  refine ⟨_, by rw [← g1.w]; exact hrun, g1.ext.trans p.ext, ?_⟩
                  refine hm1.setL hi p.ext (p.wf hm1.wf) rfl rfl rfl (fun who hw => p.same (by rw [k3]; simpa using fun e => hw e.symm)) ⟨b, row, ty, k1, p.at, k3, k4, ?_⟩
                  have hall : All2 (VL c1) cs cur.toList := All2.of (by simpa using hcl) fun j a ha v hv => by
                    obtain ⟨v', q1, q2⟩ := k5.2 j a ha
                    rw [Array.getElem?_toList, q1] at hv
                    injection hv with hv
                    rw [← hv]; exact q2
                  have hsp := p.ext.all2 (hall.splice hxs off)
                  refine ⟨by rw [splice_length _ _ _ (by omega), hrs]; exact hcl, fun j a ha => ?_⟩
                  obtain ⟨v', q1, q2⟩ := hsp.get j a ha
                  exact ⟨v', by rw [hrow, List.getElem?_toArray]; exact q1, q2⟩
              · cases h
            · cases h
          · -- everybody's
            rename_i g hres
            split at h
            · rename_i ys m1 hgive
              obtain ⟨c2, g2, q1, q2⟩ := giveL_ok (give_ok 2) xs v.cells.toList ys c1 m0 m1 g off hgive hm1 hxs
              split at h
              · rename_i cs hget
                have hG : m1.G[g]? = some (.obj cs) := hget
                split at h
                · rename_i hfit
                  injection h with h
                  subst h
                  have ha2 := (res_glob hm1 hres ha1).ext g2.gh.ext
                  obtain ⟨b, cur, ty, k1, k2, k3, k4, k5, k6⟩ := g2.ok.g _ _ hG
                  cases ha2 with
                  | ptrg hb =>
                    have : some b = some _ := k1.symm.trans hb
                    injection this with this
                    subst this
                    have hrun := run_storeAt (P := P) hT hti k2 (by intro k _; omega) hsz (o := off) (by omega) hone
                    obtain ⟨row, hrow⟩ : ∃ r, r = (splice cur.toList off v.cells.toList).toArray := ⟨_, rfl⟩
                    rw [← hrow] at hrun
                    have hfc : off + v.cells.toList.length ≤ cur.toList.length := by simp only [Array.length_toList]; omega
                    have hyl : off + ys.length ≤ cs.length := by rw [q1]; simp only [Array.length_toList]; omega
                    have hrs : row.size = cur.size := by
                      rw [hrow, List.size_toArray, splice_length _ _ _ hfc, Array.length_toList]
                    have p := Cx.put_put g2.ok (row := row) k2 hrs k3 k4 1 (fun e => by cases e)
                    refine ⟨_, by rw [← g1.w, ← g2.gh.w]; exact hrun, (g1.ext.trans g2.gh.ext).trans p.ext, ?_⟩
                    have hs : ∀ who, who ≠ .gobj g → Same c2 (c2.put b row 1) who := fun who hw => p.same (by rw [k3]; simpa using fun e => hw e.symm)
                    refine g2.ok.of p.ext (p.wf g2.ok.wf) (by simp [Cx.put, Mem.tick, Mem.set, g2.ok.ep]) (fun k e hk => .inl ⟨hk, hs _ (by simp)⟩) (fun k hk => g2.ok.ln k hk) (fun k e hk => ?_) (fun k hk => by simp only [Mem.tick, Mem.set, List.length_set] at hk; exact g2.ok.gn k hk)
                    simp only [Mem.tick, Mem.set] at hk
                    rw [set_get] at hk
                    split at hk
                    · rename_i h1
                      obtain ⟨rfl, _⟩ := h1
                      simp only [Option.some.injEq] at hk
                      subst hk
                      right
                      refine ⟨b, row, ty, k1, p.at, k3, k4, by rw [splice_length _ _ _ hyl, hrs]; exact k5, fun j a ha => ?_⟩
                      rw [splice_get _ _ _ _ hyl] at ha
                      have hrg : row[j]? = (if off ≤ j ∧ j < off + v.cells.toList.length then v.cells.toList[j - off]? else cur.toList[j]?) := by rw [hrow, List.getElem?_toArray, splice_get _ _ _ _ hfc]
                      rw [hrg]
                      split at ha
                      · rename_i hin
                        obtain ⟨z1, u, z2, z3⟩ := q2 _ _ ha
                        refine ⟨z1, u, by rw [if_pos ⟨hin.1, by omega⟩]; exact z2, ?_⟩
                        have e : off + (j - off) = j := by omega
                        rw [e] at z3
                        exact z3.frame p.ext (hs (.grow g j) (by simp))
                      · rename_i hin
                        obtain ⟨z1, u, z2, z3⟩ := k6 _ _ ha
                        exact ⟨z1, u, by rw [if_neg (by omega), Array.getElem?_toList]; exact z2, z3.frame p.ext (hs (.grow g j) (by simp))⟩
                    · rename_i h1
                      have hgl := (List.getElem?_eq_some_iff.1 hG).1
                      exact .inl ⟨hk, hs _ (by simp; intro e; exact h1 ⟨e.symm, hgl⟩), fun j => hs _ (by simp)⟩
                · cases h
              · cases h
            · cases h
        · -- an element of a row of one's own
          rename_i i sz k off
          split at h
          · rename_i ds m1 hsn
            obtain ⟨c2, g2, hm2, hds⟩ := mapS_snap hsn hm1 hxs
            split at h
            · rename_i sz' rs hget
              split at h
              · rename_i hszz
                subst hszz
                split at h
                · rename_i e hke
                  split at h
                  · rename_i hfit
                    injection h with h
                    subst h
                    have hi := get_loc hget
                    obtain ⟨b, cap, k1, k2, k3⟩ := hm2.l _ _ hi
                    have ha2 := ha1.ext g2.ext
                    cases ha2 with
                    | ept hb =>
                      have : some b = some _ := k1.symm.trans hb
                      injection this with this
                      subst this
                      obtain ⟨row, cur, ety, fz, z1, p, z3⟩ := store_row (P := P) hT hm2 hti (who := .lent i) (fun g e => by cases e) k3 hke hfit hds hsz
                      refine ⟨_, by rw [← g1.w, ← g2.w]; exact z1, (g1.ext.trans g2.ext).trans p.ext, ?_⟩
                      exact hm2.setL hi p.ext (p.wf hm2.wf) rfl rfl rfl (fun who hw => p.same (by rw [k3.own]; simpa using fun e => hw e.symm)) ⟨b, cap, k1, by rw [List.length_set]; exact k2, z3⟩
                  · cases h
                · cases h
              · cases h
            · cases h
          · cases h
        · -- an element of a row in everybody's object
          rename_i g j ep sz k off
          split at h
          · rename_i ds m1 hsn
            obtain ⟨c2, g2, hm2, hds⟩ := mapS_snap hsn hm1 hxs
            split at h
            · rename_i sz' rs hget
              split at h
              · rename_i hszz
                subst hszz
                split at h
                · rename_i e hke
                  split at h
                  · rename_i hfit
                    injection h with h
                    subst h
                    have ha2 := ha1.ext g2.ext
                    obtain ⟨cs, b, cap, w1, w2, w3, rfl, w4⟩ := gept_row hm2 ha2 hget
                    obtain ⟨row, cur, ety, fz, z1, p, z3⟩ := store_row (P := P) hT hm2 hti (who := .grow g j) (fun g e => by cases e) w3 hke hfit hds hsz
                    refine ⟨_, by rw [← g1.w, ← g2.w]; exact z1, (g1.ext.trans g2.ext).trans p.ext, ?_⟩
                    refine hm2.setRow w1 w2 p.ext (p.wf hm2.wf) rfl rfl rfl (fun who hw => p.same (by rw [w3.own]; simpa using fun e => hw e.symm)) rfl ?_
                    intro bo v' y1 y2 _
                    refine ⟨b, cap, ?_, z3⟩
                    rw [w4 bo v' y1 y2, List.length_set]
                  · cases h
                · cases h
              · cases h
            · cases h
          · cases h
        · cases h
      · cases h
    · cases h
  · cases h

end Go.Eng
end
