/- Reading out of memory; conversions that lay nothing. -/
import Derived.Test.YtkconbpjimjbnaaEngM
import Derived.Laws.BytesArg
namespace Go.Eng
open Go Go.RowKit

theorem RowC.elem {c : Cx} {sz : Nat} {xs : Row} {cur : Array Value} {b : Nat} {ty : TypeId} {fz : Nat × Nat} (h : RowC c sz xs cur) (hh : c.w.heap[b]? = some (.cells cur ty fz)) {k : Nat} {x : List D} (hx : xs[k]? = some x) :
    ∀ (j : Nat) (d : D), x[j]? = some d → ∃ v, c.w.cell? ⟨b, k * sz + j, none⟩ = some v ∧ RD c.w c.lv d v := by
  intro j d hd
  obtain ⟨v, h1, h2⟩ := h.hc k x j d hx hd
  exact ⟨v, by rw [cell_of hh]; exact h1, h2⟩

theorem RD.elem {w : World} {lv : Nat → Nat} {kk : LK} {sz : Nat} {xs : Row} {b o len cap : Nat} (h : RD w lv (.list kk sz xs) (.slice (some ⟨b, o, none⟩) len cap)) {k : Nat} {x : List D} (hx : xs[k]? = some x) :
    ∀ (j : Nat) (d : D), x[j]? = some d → ∃ v, w.cell? ⟨b, o + (k * sz + j), none⟩ = some v ∧ RD w lv d v := by
  intro j d hd
  cases h with
  | void _ _ _ => simp at hx
  | list vs a1 a2 a3 a4 a5 a6 a7 a8 => exact ⟨vs k j, a5 k x j d hx hd, a6 k x j d hx hd⟩

theorem RowE.elem {c : Cx} {i b cap sz : Nat} {xs : Row} {md : Mode} (h : RowE c i b cap sz xs md) {k : Nat} {x : List D} (hx : xs[k]? = some x) :
    ∀ (j : Nat) (d : D), x[j]? = some d → ∃ v, c.w.cell? ⟨b, k * sz + j, none⟩ = some v ∧ RD c.w c.lv d v := by
  cases md with
  | ro =>
    intro j d hd
    have := RD.elem h.1 hx j d hd
    simpa using this
  | own => obtain ⟨⟨cur, ty, fz, k1, k2, k3, k4, k4'⟩, _⟩ := h; exact k4.elem k1 hx
  | excl => obtain ⟨⟨cur, ty, fz, k1, k2, k3, k4, k4'⟩, _⟩ := h; exact k4.elem k1 hx

theorem RowOk.elem {c : Cx} {who : Who} {b cap sz : Nat} {xs : Row} {md : Mode} (h : RowOk c who b cap sz xs md) {k : Nat} {x : List D} (hx : xs[k]? = some x) :
    ∀ (j : Nat) (d : D), x[j]? = some d → ∃ v, c.w.cell? ⟨b, k * sz + j, none⟩ = some v ∧ RD c.w c.lv d v := by
  obtain ⟨⟨cur, ty, fz, k1, k2, k3, k4, k4'⟩, _⟩ := h
  exact k4.elem k1 hx

theorem ent_of {m : Mem} {r : Ref} {e : Ent} (h : m.ent r = some e) : (∃ i, r = .loc i ∧ m.res r = .loc i ∧ m.L[i]? = some (some e)) ∨ (∃ g, m.res r = .glob g ∧ m.G[g]? = some e) := by
  unfold Mem.ent at h
  cases hr : m.res r with
  | loc i =>
    rw [hr] at h
    exact .inl ⟨i, res_loc hr, rfl, get_loc h⟩
  | glob g =>
    rw [hr] at h
    exact .inr ⟨g, rfl, h⟩

theorem gept_row {c : Cx} {m : Mem} {g j e sz k off : Nat} {v : Value} {md : Mode} {xs : Row} (h : MemOk c m) (hv : VL c (.gept g j e sz k off) v) (hr : m.rowAt g j e = some (md, sz, xs)) :
    ∃ cs b cap, m.G[g]? = some (.obj cs) ∧ cs[j]? = some (.rowc md sz xs) ∧ RowOk c (.grow g j) b cap sz xs md ∧ v = .pointer (some ⟨b, k * sz + off, none⟩) ∧
      (∀ bo v', c.bg g = some bo → c.w.cell? ⟨bo, j, none⟩ = some v' → v' = .slice (some ⟨b, 0, none⟩) xs.length cap) := by
  obtain ⟨he, cs, hg, hj⟩ := rowAt_some hr
  cases hv with
  | gept he' h' =>
    obtain ⟨bo, l0, c0, h1, h2, rfl⟩ := h' (by rw [h.ep]; exact he)
    obtain ⟨b2, cur, ty, k1, k2, k3, k4, k5, k6⟩ := h.g _ _ hg
    obtain ⟨q1, v2, q2, q3⟩ := k6 _ _ hj
    obtain ⟨b3, cap, q4, q5⟩ := q3
    have : b2 = bo := by rw [h1] at k1; injection k1 with k1; exact k1.symm
    subst this
    rw [cell_of k2, q2] at h2
    injection h2 with h2
    rw [q4] at h2
    injection h2 with h2 h2l h2c
    injection h2 with h2
    injection h2 with h2
    subst h2
    refine ⟨cs, _, cap, hg, hj, q5, rfl, fun bo' v' z1 z2 => ?_⟩
    rw [h1] at z1
    injection z1 with z1
    subst z1
    rw [cell_of k2, q2] at z2
    injection z2 with z2
    rw [← z2, q4]

theorem load_ok {P : Program} {T : Tab} {c : Cx} {m : Mem} (hT : TabOk P T) (hm : MemOk c m) {t : TypeId} {X res : AV} {v : Value} (h : load T m t X = some res) (hx : VL c X v) : RunsTo P c (Instr.loadAt t v) res := by
  unfold load at h
  split at h
  · rename_i ti hti
    split at h
    · rename_i r off
      split at h
      · rename_i cs he
        split at h
        · rename_i l hl
          unfold cellsAt at hl
          split at hl
          · rename_i hn
            injection hl with hl
            subst hl
            rcases ent_of he with ⟨i, rfl, hres, hi⟩ | ⟨g, hres, hg⟩
            · rw [hres] at h
              obtain ⟨b, cur, ty, k1, k2, k3, k4, k5⟩ := hm.l _ _ hi
              cases hx with
              | ptrl hb =>
                have : some b = some _ := k1.symm.trans hb
                injection this with this
                subst this
                refine asVal_ok hT hti (cur := cur) (wh := none) hm.ep k5.1 h hn (fun j => cell_of k2 j) (fun j a ha => k5.2 j a ha) (fun g j e => by cases e)
            · rw [hres] at h
              have hx' := res_glob hm hres hx
              obtain ⟨b, cur, ty, k1, k2, k3, k4, k5, k6⟩ := hm.g _ _ hg
              cases hx' with
              | ptrg hb =>
                have : some b = some _ := k1.symm.trans hb
                injection this with this
                subst this
                exact asVal_ok hT hti (cur := cur) (wh := some (g, off)) hm.ep k5 h hn (fun j => cell_of k2 j) (fun j a ha => (k6 j a ha).2) (fun g' j' e => by cases e; exact ⟨rfl, k1⟩)
          · cases hl
        · cases h
      · cases h
    · split at h
      · rename_i md sz' xs hr
        split at h
        · rename_i hsz
          subst hsz
          split at h
          · rename_i x hxk
            cases hx with
            | ept hb =>
              have hi := get_loc hr
              obtain ⟨b, cap, k1, k2, k3⟩ := hm.l _ _ hi
              have : some b = some _ := k1.symm.trans hb
              injection this with this
              subst this
              exact rowVal_ok hT hti h (k3.elem hxk)
          · cases h
        · cases h
      · cases h
    · split at h
      · rename_i md sz' xs hr
        split at h
        · rename_i hsz
          subst hsz
          split at h
          · rename_i x hxk
            obtain ⟨cs, b, cap, z1, z2, z3, rfl, z4⟩ := gept_row hm hx hr
            exact rowVal_ok hT hti h (z3.elem hxk)
          · cases h
        · cases h
      · cases h
    · split at h
      · rename_i x hxk
        cases hx with
        | dpt hd =>
          have := rowVal_ok (base := _) hT hti h (fun j d hj => by
            have := hd.elem hxk j d hj
            rw [← Nat.add_assoc] at this
            exact this)
          rw [Nat.add_assoc] at this
          exact this
      · cases h
    · cases h
  · cases h


/-! ### the elements of a list, as the machine reads them -/

/-- cells that lie one behind the other, and what they read as -/
structure Cells (c : Cx) (b o : Nat) (sz : Nat) (xs : Row) (vs : List Value) : Prop where
  len : vs.length = xs.length * sz
  hsz : ∀ x ∈ xs, x.length = sz
  cell : ∀ (j : Nat) (v : Value), vs[j]? = some v → c.w.cell? ⟨b, o + j, none⟩ = some v
  rd : ∀ k x j d, xs[k]? = some x → x[j]? = some d → ∃ v, vs[k * sz + j]? = some v ∧ RD c.w c.lv d v

theorem cells_mk {c : Cx} {b o sz : Nat} {xs : Row} (hsz : ∀ x ∈ xs, x.length = sz)
    (h : ∀ k x j d, xs[k]? = some x → x[j]? = some d → ∃ v, c.w.cell? ⟨b, o + (k * sz + j), none⟩ = some v ∧ RD c.w c.lv d v) : ∃ vs, Cells c b o sz xs vs := by
  have key : ∀ p, p < xs.length * sz → ∃ k x j d, xs[k]? = some x ∧ x[j]? = some d ∧ p = k * sz + j := by
    intro p hp
    have hs : 0 < sz := by
      rcases Nat.eq_zero_or_pos sz with h0 | h0
      · rw [h0, Nat.mul_zero] at hp; omega
      · exact h0
    have hk : p / sz < xs.length := (Nat.div_lt_iff_lt_mul hs).2 hp
    have hx : xs[p / sz]? = some xs[p / sz] := by simp
    have hl := hsz _ (List.mem_of_getElem? hx)
    have hj : p % sz < (xs[p / sz]).length := by rw [hl]; exact Nat.mod_lt _ hs
    exact ⟨p / sz, _, p % sz, (xs[p / sz])[p % sz], hx, by simp, (Nat.div_add_mod' p sz).symm⟩
  refine ⟨(List.range (xs.length * sz)).map fun p => (c.w.cell? ⟨b, o + p, none⟩).getD default, by simp, hsz, fun j v hj => ?_, fun k x j d hx hd => ?_⟩
  · rw [List.getElem?_map] at hj
    by_cases hjs : j < xs.length * sz
    · rw [List.getElem?_range hjs] at hj
      simp only [Option.map_some, Option.some.injEq] at hj
      obtain ⟨k, x, j', d, h1, h2, rfl⟩ := key j hjs
      obtain ⟨v', h3, h4⟩ := h k x j' d h1 h2
      rw [h3] at hj ⊢
      simpa using hj
    · rw [List.getElem?_eq_none (by simp; omega)] at hj; cases hj
  · obtain ⟨v', h3, h4⟩ := h k x j d hx hd
    refine ⟨v', ?_, h4⟩
    rw [List.getElem?_map, List.getElem?_range (idx_lt hsz hx hd)]
    simp [h3]

theorem Cells.one {c : Cx} {b o sz : Nat} {xs : Row} {vs : List Value} (h : Cells c b o sz xs vs) : ∀ v ∈ vs, v.oneCell' = true := by
  intro v hv
  obtain ⟨p, hp⟩ := List.getElem?_of_mem hv
  have hp' := (List.getElem?_eq_some_iff.1 hp).1
  rw [h.len] at hp'
  have hs : 0 < sz := by
    rcases Nat.eq_zero_or_pos sz with h0 | h0
    · rw [h0, Nat.mul_zero] at hp'; omega
    · exact h0
  have hk : p / sz < xs.length := (Nat.div_lt_iff_lt_mul hs).2 hp'
  have hx : xs[p / sz]? = some xs[p / sz] := by simp
  have hl := h.hsz _ (List.mem_of_getElem? hx)
  have hj : p % sz < (xs[p / sz]).length := by rw [hl]; exact Nat.mod_lt _ hs
  obtain ⟨v', h1, h2⟩ := h.rd (p / sz) (xs[p / sz]) (p % sz) ((xs[p / sz])[p % sz]) hx (by simp)
  have e : p / sz * sz + p % sz = p := Nat.div_add_mod' p sz
  rw [e, hp] at h1
  injection h1 with h1
  rw [h1]; exact h2.oneCell

/-- What a list's value leads to. -/
theorem rd_ok {c : Cx} {m : Mem} (hm : MemOk c m) {X : AV} {v : Value} {n : Bool} {sz : Nat} {xs : Row} (h : rd m X = some (n, sz, xs)) (hx : VL c X v) :
    (n = true ∧ xs = [] ∧ v = .slice none 0 0) ∨ ∃ a cap vs, v = .slice (some a) xs.length cap ∧ (a.spot = none ∨ (xs = [] ∧ ∃ k s, X = .dat (.list k s []))) ∧ xs.length ≤ cap ∧ Cells c a.block a.off sz xs vs := by
  unfold rd at h
  split at h
  · rename_i n' sz' xs'
    simp only [Option.some.injEq, Prod.mk.injEq] at h
    obtain ⟨rfl, rfl, rfl⟩ := h
    cases hx with
    | dat hd =>
      cases hd with
      | nil => exact .inl ⟨rfl, rfl, rfl⟩
      | list vs a1 a2 a3 a4 a5 a6 a7 a8 =>
        rename_i b o cap
        obtain ⟨ws, hw⟩ := cells_mk (c := c) (b := b) (o := o) a1 (fun k x j d h1 h2 => ⟨vs k j, a5 k x j d h1 h2, a6 k x j d h1 h2⟩)
        exact .inr ⟨⟨b, o, none⟩, cap, ws, rfl, .inl rfl, a2, hw⟩
      | void sz0 a hk => exact .inr ⟨a, 0, [], rfl, .inr ⟨rfl, _, _, rfl⟩, Nat.le_refl _, ⟨by simp, by simp, by simp, by simp⟩⟩
  · rename_i f i sz0 off len
    split at h
    · rename_i md sz' xs' hr
      split at h
      · rename_i hsz
        subst hsz
        simp only [Option.some.injEq, Prod.mk.injEq] at h
        obtain ⟨rfl, rfl, rfl⟩ := h
        obtain ⟨hi, b, cap, h1, h2, h3, h4, h5⟩ := sh_row hm hx hr
        obtain ⟨ad, cap', ty, nn, rfl, q1, q2, q3, q4, q5, q6⟩ := h5
        have hl := sub_length xs' off len h4
        have hus : ∀ x ∈ xs', x.length = sz' := by
          cases md with
          | ro =>
            obtain ⟨hrd, _⟩ := h3
            cases hrd with
            | list vs a1 => exact a1
            | void _ _ _ => simp
          | own => obtain ⟨⟨cur, ty, fz, k1, k2, k3, k4, k4'⟩, _⟩ := h3; exact k4.hsz
          | excl => obtain ⟨⟨cur, ty, fz, k1, k2, k3, k4, k4'⟩, _⟩ := h3; exact k4.hsz
        have hus' : ∀ x ∈ (xs'.drop off).take len, x.length = sz' := fun x hx => hus x (List.mem_of_mem_drop (List.mem_of_mem_take hx))
        rcases q6 with rfl | ⟨rfl, rfl, _, hsp⟩
        · obtain ⟨ws, hw⟩ := cells_mk (c := c) (b := b) (o := off * sz') hus' (fun k x j d hx hd => by
            rw [sub_get] at hx
            split at hx
            · obtain ⟨v, z1, z2⟩ := h3.elem hx j d hd
              refine ⟨v, ?_, z2⟩
              rw [Nat.add_mul] at z1
              rw [← z1]; congr 2; omega
            · cases hx)
          exact .inr ⟨⟨b, off * sz', none⟩, cap', ws, by rw [hl], .inl rfl, by rw [hl]; exact q2, hw⟩
        · refine .inr ⟨ad, 0, [], by simp, .inl hsp, by simp, ⟨by simp, by simp, by simp, by simp⟩⟩
      · cases h
    · cases h
  · rename_i f g j e sz0 off len
    split at h
    · rename_i md sz' xs' hr
      split at h
      · rename_i hsz
        subst hsz
        simp only [Option.some.injEq, Prod.mk.injEq] at h
        obtain ⟨rfl, rfl, rfl⟩ := h
        obtain ⟨cs, b, cap, hg, hj, h3, h4, h5, _⟩ := gh_row hm hx hr
        obtain ⟨ad, cap', ty, nn, rfl, q1, q2, q3, q4, q5, q6⟩ := h5
        have hl := sub_length xs' off len h4
        have hus : ∀ x ∈ xs', x.length = sz' := by
          obtain ⟨⟨cur, ty, fz, k1, k2, k3, k4, k4'⟩, _⟩ := h3; exact k4.hsz
        have hus' : ∀ x ∈ (xs'.drop off).take len, x.length = sz' := fun x hx => hus x (List.mem_of_mem_drop (List.mem_of_mem_take hx))
        rcases q6 with rfl | ⟨rfl, rfl, _, hsp⟩
        · obtain ⟨ws, hw⟩ := cells_mk (c := c) (b := b) (o := off * sz') hus' (fun k x j d hx hd => by
            rw [sub_get] at hx
            split at hx
            · obtain ⟨v, z1, z2⟩ := h3.elem hx j d hd
              refine ⟨v, ?_, z2⟩
              rw [Nat.add_mul] at z1
              rw [← z1]; congr 2; omega
            · cases hx)
          exact .inr ⟨⟨b, off * sz', none⟩, cap', ws, by rw [hl], .inl rfl, by rw [hl]; exact q2, hw⟩
        · refine .inr ⟨ad, 0, [], by simp, .inl hsp, by simp, ⟨by simp, by simp, by simp, by simp⟩⟩
      · cases h
    · cases h
  · cases h

end Go.Eng
