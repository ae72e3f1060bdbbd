/- The evaluator's memory, step by step: what is told as data, kept, handed on, given away. -/
import Derived.Test.YtkconbpjimjbnaaEngC
namespace Go.Eng
open Go Go.RowKit

theorem MemOk.of {c c' : Cx} {m m' : Mem} (h : MemOk c m) (x : Ext c c') (wf : WF c') (ep : c'.ep = m'.ep)
    (hl : ∀ i e, m'.L[i]? = some (some e) → (m.L[i]? = some (some e) ∧ Same c c' (.lent i)) ∨ EOk c' i e)
    (hn : ∀ i, (m'.L[i]? = some none ∨ m'.L.length ≤ i) → c'.bl i = none)
    (hg : ∀ g e, m'.G[g]? = some e → (m.G[g]? = some e ∧ Same c c' (.gobj g) ∧ ∀ j, Same c c' (.grow g j)) ∨ GOk c' g e)
    (hgn : ∀ g, m'.G.length ≤ g → c'.bg g = none) : MemOk c' m' where
  wf := wf
  ep := ep
  ln := hn
  l := fun i e hi => by
    rcases hl i e hi with ⟨h1, h2⟩ | h1
    · exact (h.l i e h1).frame x h2
    · exact h1
  gn := hgn
  g := fun i e hi => by
    rcases hg i e hi with ⟨h1, h2, h3⟩ | h1
    · exact (h.g i e h1).frame x h2 h3
    · exact h1

/-- a block that an object of everybody's is in is that object's -/
theorem MemOk.bgown {c : Cx} {m : Mem} (h : MemOk c m) {g b : Nat} (hg : c.bg g = some b) : c.own b = some (.gobj g) := by
  rcases Nat.lt_or_ge g m.G.length with hl | hl
  · have hx : m.G[g]? = some m.G[g] := by simp [hl]
    have := h.g g _ hx
    revert this
    cases m.G[g] with
    | obj cs =>
      rintro ⟨b', cur, ty, h1, h2, h3, _⟩
      rw [hg] at h1
      injection h1 with h1
      rw [h1]; exact h3
    | row => exact fun h => h.elim
    | fwd => exact fun h => h.elim
    | gone =>
      rintro ⟨b', h1, h2⟩
      rw [hg] at h1
      injection h1 with h1
      rw [h1]; exact h2
  · rw [h.gn g hl] at hg; cases hg

theorem set_get {α : Type} (l : List α) (i k : Nat) (a : α) : (l.set i a)[k]? = if i = k ∧ i < l.length then some a else l[k]? := by
  rw [List.getElem?_set]
  by_cases h : i = k
  · subst h
    by_cases h2 : i < l.length
    · simp [h2]
    · simp [h2]
  · simp [h]

theorem MemOk.setL {c c' : Cx} {m : Mem} {i : Nat} {e0 e : Ent} (h : MemOk c m) (hi : m.L[i]? = some (some e0)) (x : Ext c c') (wf : WF c') (hep : c'.ep = c.ep)
    (hbl : c'.bl = c.bl) (hbg : c'.bg = c.bg) (s : ∀ who, who ≠ .lent i → Same c c' who) (he : EOk c' i e) : MemOk c' (m.set (.loc i) e) := by
  have hlt := (List.getElem?_eq_some_iff.1 hi).1
  refine h.of x wf (by rw [hep]; exact h.ep) (fun k e1 hk => ?_) (fun k hk => ?_) (fun g e1 hg => ?_) (fun g hg => ?_)
  · simp only [Mem.set] at hk
    rw [set_get] at hk
    split at hk
    · rename_i h1
      injection hk with hk
      injection hk with hk
      subst hk
      rw [← h1.1]; exact .inr he
    · rename_i h1
      exact .inl ⟨hk, s _ (fun e2 => h1 ⟨by injection e2 with e2; exact e2.symm, hlt⟩)⟩
  · simp only [Mem.set, List.length_set] at hk
    rw [hbl]
    rw [set_get] at hk
    split at hk
    · rename_i h1
      rcases hk with hk | hk
      · cases hk
      · omega
    · exact h.ln k hk
  · exact .inl ⟨hg, s _ (by simp), fun j => s _ (by simp)⟩
  · rw [hbg]; exact h.gn g hg

theorem MemOk.fresh {c c' : Cx} {m : Mem} {i : Nat} {e : Ent} (h : MemOk c m) (hi : m.L[i]? = some none) (x : Ext c c') (wf : WF c') (hep : c'.ep = c.ep)
    (hbl : ∀ k, k ≠ i → c'.bl k = c.bl k) (hbg : c'.bg = c.bg) (s : ∀ who, Same c c' who) (he : EOk c' i e) : MemOk c' (m.set (.loc i) e) := by
  have hlt := (List.getElem?_eq_some_iff.1 hi).1
  refine h.of x wf (by rw [hep]; exact h.ep) (fun k e1 hk => ?_) (fun k hk => ?_) (fun g e1 hg => ?_) (fun g hg => ?_)
  · simp only [Mem.set] at hk
    rw [set_get] at hk
    split at hk
    · rename_i h1
      injection hk with hk
      injection hk with hk
      subst hk
      rw [← h1.1]; exact .inr he
    · exact .inl ⟨hk, s _⟩
  · simp only [Mem.set, List.length_set] at hk
    rw [set_get] at hk
    split at hk
    · rename_i h1
      rcases hk with hk | hk
      · cases hk
      · omega
    · rename_i h1
      rw [hbl k (fun e2 => h1 ⟨e2.symm, hlt⟩)]
      exact h.ln k hk
  · exact .inl ⟨hg, s _, fun j => s _⟩
  · rw [hbg]; exact h.gn g hg

/-! ### a part of a list -/

theorem sub_get {α : Type} (xs : List α) (off len k : Nat) : ((xs.drop off).take len)[k]? = if k < len then xs[off + k]? else none := by
  rw [List.getElem?_take]
  split
  · rw [List.getElem?_drop]
  · rfl

theorem sub_length {α : Type} (xs : List α) (off len : Nat) (h : off + len ≤ xs.length) : ((xs.drop off).take len).length = len := by
  simp; omega

theorem RD.sub {w : World} {lv : Nat → Nat} {k k' : LK} {sz : Nat} {xs : Row} {b o n cap off len cap' : Nat} (r : RD w lv (.list k sz xs) (.slice (some ⟨b, o, none⟩) n cap))
    (h : off + len ≤ xs.length) (h1 : len ≤ cap') (h2 : cap' ≤ maxLen) (hk' : k' ≠ .nil) (hf' : k' = .full → cap' = len) : RD w lv (.list k' sz ((xs.drop off).take len)) (.slice (some ⟨b, o + off * sz, none⟩) len cap') := by
  cases r with
  | void sz a hk =>
    have e1 : off = 0 := by simp at h; omega
    have e2 : len = 0 := by simp at h; omega
    subst e1 e2
    simp only [List.drop_zero, List.take_nil]
    exact .list (xs := []) (fun _ _ => default) (by simp) (by simp) h2 (by simp) (by simp) (by simp) hk' hf'
  | list vs hsz hcap hmax hlv hc hr hk hfu =>
    have hlen := sub_length xs off len h
    have := RD.list (w := w) (lv := lv) (k := k') (sz := sz) (xs := (xs.drop off).take len) (b := b) (o := o + off * sz) (cap := cap') (fun k j => vs (off + k) j)
      (fun x hx => hsz x (List.mem_of_mem_drop (List.mem_of_mem_take hx))) (by rw [hlen]; exact h1) h2
      (fun hp => by
        rw [hlen] at hp ⊢
        have h3 := hlv (by omega)
        have h4 : (off + len) * sz ≤ xs.length * sz := Nat.mul_le_mul_right _ h
        rw [Nat.add_mul] at h4
        omega)
      (fun k x j d hx hd => by
        rw [sub_get] at hx
        split at hx
        · have := hc (off + k) x j d hx hd
          rw [Nat.add_mul] at this
          rw [← this]
          congr 2
          omega
        · cases hx)
      (fun k x j d hx hd => by
        rw [sub_get] at hx
        split at hx
        · exact hr (off + k) x j d hx hd
        · cases hx) hk' (fun e => by rw [hlen]; exact hf' e)
    rw [hlen] at this
    exact this

theorem RD.empty (w : World) (lv : Nat → Nat) {k : LK} (hk : k ≠ .nil) (sz : Nat) (a : Addr) (ha : a.spot = none) : RD w lv (.list k sz []) (.slice (some a) 0 0) := by
  obtain ⟨b, o, sp⟩ := a
  simp only at ha
  subst ha
  exact .list (xs := []) (fun _ _ => default) (by simp) (Nat.le_refl _) (Nat.zero_le _) (by simp) (by simp) (by simp) hk (by simp)

/-- the cells of a row whose prefix is frozen read as a list -/
theorem RowC.rd {c : Cx} {sz : Nat} {xs : Row} {cur : Array Value} {b cap : Nat} {ty : TypeId} {fz : Nat × Nat} (h : RowC c sz xs cur) (hh : c.w.heap[b]? = some (.cells cur ty fz))
    (hcap : xs.length ≤ cap) (hmax : cap ≤ maxLen) (hlv : xs.length * sz ≤ c.lv b) : RD c.w c.lv (.list .any sz xs) (.slice (some ⟨b, 0, none⟩) xs.length cap) := by
  have key : ∀ k x j d, xs[k]? = some x → x[j]? = some d → cur[k * sz + j]? = some (cur.getD (k * sz + j) default) ∧ RD c.w c.lv d (cur.getD (k * sz + j) default) := by
    intro k x j d hx hd
    obtain ⟨v, hv, hr⟩ := h.hc k x j d hx hd
    have : cur.getD (k * sz + j) default = v := by simp [Array.getD_eq_getD_getElem?, hv]
    rw [this]; exact ⟨hv, hr⟩
  exact .list (fun k j => cur.getD (k * sz + j) default) h.hsz hcap hmax (fun _ => by omega)
    (fun k x j d hx hd => by rw [Nat.zero_add, cell_of hh]; exact (key k x j d hx hd).1) (fun k x j d hx hd => (key k x j d hx hd).2) (by simp) (by simp)

/-! ### ghosts alone -/

structure Ghost (c c' : Cx) : Prop where
  w : c'.w = c.w
  ext : Ext c c'
  ep : c'.ep = c.ep

theorem Ghost.refl (c : Cx) : Ghost c c := ⟨rfl, .refl _, rfl⟩
theorem Ghost.trans {a b c : Cx} (h : Ghost a b) (k : Ghost b c) : Ghost a c := ⟨k.w.trans h.w, h.ext.trans k.ext, k.ep.trans h.ep⟩
theorem Turn.ghost {c c' : Cx} {b : Nat} (t : Turn c c' b) : Ghost c c' := ⟨t.w, t.ext, t.ep⟩

/-- block b is frozen up to n -/
def Cx.freeze (c : Cx) (b n : Nat) : Cx := { c with lv := fun x => if x = b then n else c.lv x }

theorem Cx.freeze_turn (c : Cx) (b n : Nat) (h : c.lv b ≤ n) (ho : c.own b ≠ none) : Turn c (c.freeze b n) b :=
  ⟨rfl, fun x hx => by simp [Cx.freeze, hx], by simp [Cx.freeze, h], fun _ _ => rfl, ho, ho, rfl, rfl, fun _ _ h => h, rfl⟩

/-- an exclusive row is frozen -/
theorem RowOk.froze {c : Cx} {who : Who} {b cap sz : Nat} {xs : Row} (h : RowOk c who b cap sz xs .excl) :
    RowOk (c.freeze b (xs.length * sz)) who b cap sz xs .own ∧ RD (c.freeze b (xs.length * sz)).w (c.freeze b (xs.length * sz)).lv (.list .any sz xs) (.slice (some ⟨b, 0, none⟩) xs.length cap) := by
  obtain ⟨⟨cur, ty, fz, h1, h2, h3, h4, h4'⟩, h5, h6, h7, h8, h9, h10⟩ := h
  simp only [Mode.lv] at h10
  have t := c.freeze_turn b (xs.length * sz) (by omega) (by rw [h8]; simp)
  have h4e := h4.ext t.ext
  refine ⟨⟨⟨cur, ty, fz, h1, h2, h3, h4e, h4'⟩, h5, h6, h7, h8, by simp, by simp [Cx.freeze, Mode.lv]⟩, ?_⟩
  exact h4e.rd h1 h5 h6 (by simp [Cx.freeze])

theorem RowOk.rd {c : Cx} {who : Who} {b cap sz : Nat} {xs : Row} (h : RowOk c who b cap sz xs .own) : RD c.w c.lv (.list .any sz xs) (.slice (some ⟨b, 0, none⟩) xs.length cap) := by
  obtain ⟨⟨cur, ty, fz, h1, h2, h3, h4, h4'⟩, h5, h6, h7, h8, h9, h10⟩ := h
  exact h4.rd h1 h5 h6 (by rw [h10]; exact Nat.le_refl _)

theorem LK.of_ne (f : Bool) : LK.of f ≠ .nil := by cases f <;> simp [LK.of]

theorem LK.of_full {f : Bool} (h : LK.of f = .full) : f = true := by cases f <;> simp_all [LK.of]

/-- of a list that is known to be as long as its room, it may be forgotten -/
theorem RD.any {w : World} {lv : Nat → Nat} {k : LK} {sz : Nat} {xs : Row} {a : Addr} {len cap : Nat} (r : RD w lv (.list k sz xs) (.slice (some a) len cap)) : RD w lv (.list .any sz xs) (.slice (some a) len cap) := by
  cases r with
  | list vs hsz hcap hmax hlv hc hr hk hfu => exact .list vs hsz hcap hmax hlv hc hr (by simp) (by simp)
  | void sz a hk => exact .void sz a (by simp)

theorem SliceAt.sub {w w' : World} {lv : Nat → Nat} {f : Bool} {k : LK} {b sz off len n cap : Nat} {xs : Row} {v : Value} (h : SliceAt w f b sz off len v) (hl : off + len ≤ xs.length)
    (r : RD w' lv (.list k sz xs) (.slice (some ⟨b, 0, none⟩) n cap)) : RD w' lv (.list (.of f) sz ((xs.drop off).take len)) v := by
  obtain ⟨ad, cap', ty, m, rfl, h1, h2, h3, h4, h5, h6⟩ := h
  rcases h6 with rfl | ⟨rfl, rfl, _, hs⟩
  · have := r.sub (k' := .of f) hl h2 h3 (LK.of_ne f) (fun e => h5 (LK.of_full e))
    rwa [Nat.zero_add] at this
  · simp only [List.take_zero]
    exact .empty _ _ (LK.of_ne f) _ _ hs

theorem mem_setRow {m : Mem} {g j : Nat} {cs : List AV} (h : m.G[g]? = some (.obj cs)) (a : AV) : m.setRow g j a = { m with G := m.G.set g (.obj (cs.set j a)) } := by
  simp [Mem.setRow, h]

/-- A turn of the row in cell j of everybody's object g. -/
theorem MemOk.setRow {c c' : Cx} {m : Mem} {g j : Nat} {cs : List AV} {a a' : AV} (h : MemOk c m) (hg : m.G[g]? = some (.obj cs)) (hj : cs[j]? = some a) (x : Ext c c') (wf : WF c') (hep : c'.ep = c.ep)
    (hbl : c'.bl = c.bl) (hbg : c'.bg = c.bg) (s : ∀ who, who ≠ .grow g j → Same c c' who) (hc : gclean a' = true) (he : ∀ bo v, c.bg g = some bo → c.w.cell? ⟨bo, j, none⟩ = some v → CL c g j a v → CL c' g j a' v) : MemOk c' (m.setRow g j a') := by
  rw [mem_setRow hg]
  have hlt := (List.getElem?_eq_some_iff.1 hg).1
  refine h.of x wf (by rw [hep]; exact h.ep) (fun k e1 hk => .inl ⟨hk, s _ (by simp)⟩) (fun k hk => by rw [hbl]; exact h.ln k hk) (fun g1 e1 hg1 => ?_) (fun g1 hg1 => ?_)
  · simp only at hg1
    rw [set_get] at hg1
    split at hg1
    · rename_i h1
      obtain ⟨rfl, _⟩ := h1
      injection hg1 with hg1
      subst hg1
      right
      obtain ⟨b, cur, ty, k1, k2, k3, k4, k5, k6⟩ := h.g _ _ hg
      obtain ⟨s1, s2, s3⟩ := s (.gobj g) (by simp) b k3
      refine ⟨b, cur, ty, x.bg _ _ k1, s1.trans k2, s2, s3.trans k4, by simpa using k5, fun j1 a1 hj1 => ?_⟩
      rw [set_get] at hj1
      split at hj1
      · rename_i h2
        obtain ⟨rfl, _⟩ := h2
        injection hj1 with hj1
        subst hj1
        obtain ⟨q1, v, q2, q3⟩ := k6 _ _ hj
        exact ⟨hc, v, q2, he _ v k1 (by rw [cell_of k2]; exact q2) q3⟩
      · rename_i h2
        obtain ⟨q1, v, q2, q3⟩ := k6 _ _ hj1
        refine ⟨q1, v, q2, q3.frame x (s _ ?_)⟩
        have := (List.getElem?_eq_some_iff.1 hj).1
        intro e2
        injection e2 with _ e2
        exact h2 ⟨e2.symm, this⟩
    · rename_i h1
      refine .inl ⟨hg1, s _ (by simp), fun j1 => s _ ?_⟩
      intro e2
      injection e2 with e2
      exact h1 ⟨e2.symm, hlt⟩
  · simp only [List.length_set] at hg1
    rw [hbg]; exact h.gn g1 hg1

/-- what 'rowAt' finds -/
theorem rowAt_some {m : Mem} {g j e : Nat} {md : Mode} {sz : Nat} {xs : Row} (h : m.rowAt g j e = some (md, sz, xs)) :
    e = m.ep ∧ ∃ cs, m.G[g]? = some (.obj cs) ∧ cs[j]? = some (.rowc md sz xs) := by
  unfold Mem.rowAt at h
  split at h
  · rename_i he
    refine ⟨he, ?_⟩
    split at h
    · rename_i cs hg
      refine ⟨cs, hg, ?_⟩
      split at h
      · rename_i hj
        simp only [Option.some.injEq, Prod.mk.injEq] at h
        obtain ⟨rfl, rfl, rfl⟩ := h
        exact hj
      · cases h
    · cases h
  · cases h

/-- the row behind a handle to everybody's row -/
theorem gh_row {c : Cx} {m : Mem} {f : Bool} {g j e sz off len : Nat} {v : Value} {md : Mode} {xs : Row} (h : MemOk c m) (hv : VL c (.gh f g j e sz off len) v) (hr : m.rowAt g j e = some (md, sz, xs)) :
    ∃ cs b cap, m.G[g]? = some (.obj cs) ∧ cs[j]? = some (.rowc md sz xs) ∧ RowOk c (.grow g j) b cap sz xs md ∧ off + len ≤ xs.length ∧ SliceAt c.w f b sz off len v ∧
      (∀ bo v', c.bg g = some bo → c.w.cell? ⟨bo, j, none⟩ = some v' → v' = .slice (some ⟨b, 0, none⟩) xs.length cap) := by
  obtain ⟨he, cs, hg, hj⟩ := rowAt_some hr
  cases hv with
  | gh _ _ _ he' h' =>
    obtain ⟨bo, b, l0, c0, h1, h2, h3, h4⟩ := h' (by rw [h.ep]; exact he)
    obtain ⟨b2, cur, ty, k1, k2, k3, k4, k5, k6⟩ := h.g _ _ hg
    obtain ⟨q1, v2, q2, q3⟩ := k6 _ _ hj
    obtain ⟨b3, cap, q4, q5⟩ := q3
    have : b2 = bo := by rw [h1] at k1; injection k1 with k1; exact k1.symm
    subst this
    rw [cell_of k2, q2] at h2
    injection h2 with h2
    rw [q4] at h2
    injection h2 with h2 h2l h2c
    injection h2 with h2
    injection h2 with h2
    subst h2
    refine ⟨cs, _, cap, hg, hj, q5, by omega, h4, fun bo' v' z1 z2 => ?_⟩
    rw [h1] at z1
    injection z1 with z1
    subst z1
    rw [cell_of k2, q2] at z2
    injection z2 with z2
    rw [← z2, q4]

theorem sh_row {c : Cx} {m : Mem} {f : Bool} {i sz off len : Nat} {v : Value} {md : Mode} {xs : Row} (h : MemOk c m) (hv : VL c (.sh f i sz off len) v) (hr : m.get (.loc i) = some (.row md sz xs)) :
    m.L[i]? = some (some (.row md sz xs)) ∧ ∃ b cap, c.bl i = some b ∧ c.rl i = xs.length ∧ RowE c i b cap sz xs md ∧ off + len ≤ xs.length ∧ SliceAt c.w f b sz off len v := by
  have hi : m.L[i]? = some (some (.row md sz xs)) := by
    simp only [Mem.get] at hr
    split at hr
    · rename_i o ho
      rw [ho, hr]
    · cases hr
  refine ⟨hi, ?_⟩
  cases hv with
  | sh hb hl hs =>
    obtain ⟨b, cap, h1, h2, h3⟩ := h.l _ _ hi
    have : some b = some _ := h1.symm.trans hb
    injection this with this
    subst this
    exact ⟨b, cap, h1, h2, h3, by omega, hs⟩

/-- **Told as data.** -/
theorem snap_ok {c : Cx} {m m' : Mem} {a : AV} {d : D} {v : Value} (hs : snap m a = some (d, m')) (h : MemOk c m) (hv : VL c a v) :
    ∃ c', Ghost c c' ∧ MemOk c' m' ∧ RD c'.w c'.lv d v ∧ (notGh a = true → (∀ g, Same c c' (.gobj g)) ∧ (∀ g j, Same c c' (.grow g j)) ∧ m'.G = m.G) := by
  unfold snap at hs
  split at hs
  · injection hs with hs
    obtain ⟨rfl, rfl⟩ := Prod.mk.inj hs
    cases hv with
    | dat hd => exact ⟨c, .refl _, h, hd, fun _ => ⟨fun _ => .refl _ _, fun _ _ => .refl _ _, rfl⟩⟩
  · rename_i f i sz off len
    split at hs
    · rename_i md sz' xs hr
      split at hs
      · rename_i hsz
        subst hsz
        injection hs with hs
        obtain ⟨rfl, rfl⟩ := Prod.mk.inj hs
        obtain ⟨hi, b, cap, h1, h2, h3, h4, h5⟩ := sh_row h hv hr
        cases md with
        | ro => exact ⟨c, .refl _, h, h5.sub h4 h3.1, fun _ => ⟨fun _ => .refl _ _, fun _ _ => .refl _ _, rfl⟩⟩
        | own => exact ⟨c, .refl _, h, h5.sub h4 h3.rd, fun _ => ⟨fun _ => .refl _ _, fun _ _ => .refl _ _, rfl⟩⟩
        | excl =>
          obtain ⟨k1, k2⟩ := h3.froze
          have ho := h3.own
          have t := c.freeze_turn b (xs.length * sz') (by rw [h3.lv]; exact Nat.zero_le _) (by rw [ho]; simp)
          refine ⟨_, t.ghost, ?_, h5.sub h4 k2, fun _ => ⟨fun g => t.same (by rw [ho]; simp), fun g j => t.same (by rw [ho]; simp), rfl⟩⟩
          exact h.setL hi t.ext (t.wf h.wf (MemOk.lt_own h.wf ho)) rfl rfl rfl (fun who hw => t.same (by rw [ho]; simpa using fun e => hw e.symm)) ⟨b, cap, h1, h2, k1⟩
      · cases hs
    · cases hs
  · rename_i f g j e sz off len
    split at hs
    · rename_i md sz' xs hr
      split at hs
      · rename_i hsz
        subst hsz
        injection hs with hs
        obtain ⟨rfl, rfl⟩ := Prod.mk.inj hs
        obtain ⟨cs, b, cap, hg, hj, h3, h4, h5, h6⟩ := gh_row h hv hr
        cases md with
        | ro => exact absurd rfl h3.md
        | own => exact ⟨c, .refl _, h, h5.sub h4 h3.rd, fun _ => ⟨fun _ => .refl _ _, fun _ _ => .refl _ _, rfl⟩⟩
        | excl =>
          obtain ⟨k1, k2⟩ := h3.froze
          have ho := h3.own
          have t := c.freeze_turn b (xs.length * sz') (by rw [h3.lv]; exact Nat.zero_le _) (by rw [ho]; simp)
          refine ⟨_, t.ghost, ?_, h5.sub h4 k2, fun e => by simp [notGh] at e⟩
          refine h.setRow hg hj t.ext (t.wf h.wf (MemOk.lt_own h.wf ho)) rfl rfl rfl (fun who hw => t.same (by rw [ho]; simpa using fun e => hw e.symm)) rfl ?_
          intro bo v2 z1 z2 _
          exact ⟨b, cap, h6 bo v2 z1 z2, k1⟩
      · cases hs
    · cases hs
  · cases hs

end Go.Eng
