/- Steps of the memory: what stays, what a write, a new block, a freezing leave. -/
import Derived.Test.YtkconbpjimjbnaaEngB
namespace Go.Eng
open Go Go.RowKit

def Same (c c' : Cx) (who : Who) : Prop := ∀ b, c.own b = some who → c'.w.heap[b]? = c.w.heap[b]? ∧ c'.own b = some who ∧ c'.lv b = c.lv b

theorem Same.refl (c : Cx) (who : Who) : Same c c who := fun _ h => ⟨rfl, h, rfl⟩

theorem Same.trans {a b c : Cx} {who : Who} (h : Same a b who) (k : Same b c who) : Same a c who := fun x hx => by
  obtain ⟨h1, h2, h3⟩ := h x hx
  obtain ⟨k1, k2, k3⟩ := k x h2
  exact ⟨k1.trans h1, k2, k3.trans h3⟩

theorem RowC.ext {c c' : Cx} (x : Ext c c') {sz : Nat} {xs : Row} {cur : Array Value} (h : RowC c sz xs cur) : RowC c' sz xs cur :=
  ⟨h.hsz, fun k e j d h1 h2 => by obtain ⟨v, hv, hd⟩ := h.hc k e j d h1 h2; exact ⟨v, hv, hd.stay x.stay⟩⟩

theorem RowOk.frame {c c' : Cx} {who : Who} {b cap sz : Nat} {xs : Row} {m : Mode} (x : Ext c c') (s : Same c c' who) (h : RowOk c who b cap sz xs m) : RowOk c' who b cap sz xs m := by
  obtain ⟨⟨cur, ty, fz, h1, h2, h3, h4, h4'⟩, h5, h6, h7, h8, h9, h10⟩ := h
  obtain ⟨s1, s2, s3⟩ := s b h8
  exact ⟨⟨cur, ty, fz, s1.trans h1, h2, h3, h4.ext x, h4'⟩, h5, h6, h7, s2, h9, s3.trans h10⟩

theorem CellsL.ext {c c' : Cx} (x : Ext c c') {cs : List AV} {cur : Array Value} (h : CellsL c cs cur) : CellsL c' cs cur :=
  ⟨h.1, fun j a ha => by obtain ⟨v, hv, hd⟩ := h.2 j a ha; exact ⟨v, hv, hd.ext x⟩⟩

theorem EOk.frame {c c' : Cx} {i : Nat} {e : Ent} (x : Ext c c') (s : Same c c' (.lent i)) (h : EOk c i e) : EOk c' i e := by
  cases e with
  | obj cs =>
    obtain ⟨b, cur, ty, h1, h2, h3, h4, h5⟩ := h
    obtain ⟨s1, s2, s3⟩ := s b h3
    exact ⟨b, cur, ty, x.bl _ _ h1, s1.trans h2, s2, s3.trans h4, h5.ext x⟩
  | row m sz xs =>
    obtain ⟨b, cap, h1, h1', h2⟩ := h
    refine ⟨b, cap, x.bl _ _ h1, (x.rl _ _ h1).trans h1', ?_⟩
    cases m with
    | ro => exact ⟨h2.1.stay x.stay, h2.2⟩
    | own => exact h2.frame x s
    | excl => exact h2.frame x s
  | fwd g =>
    obtain ⟨b, h1, h2⟩ := h
    exact ⟨b, x.bl _ _ h1, x.bg _ _ h2⟩
  | gone => trivial

theorem CL.frame {c c' : Cx} {g j : Nat} {a : AV} {v : Value} (x : Ext c c') (s : Same c c' (.grow g j)) (h : CL c g j a v) : CL c' g j a v := by
  unfold CL at h ⊢
  cases a <;> first
    | exact VL.ext x h
    | (obtain ⟨b, cap, h1, h2⟩ := h; exact ⟨b, cap, h1, h2.frame x s⟩)

theorem GOk.frame {c c' : Cx} {g : Nat} {e : Ent} (x : Ext c c') (s : Same c c' (.gobj g)) (sr : ∀ j, Same c c' (.grow g j)) (h : GOk c g e) : GOk c' g e := by
  cases e with
  | obj cs =>
    obtain ⟨b, cur, ty, h1, h2, h3, h4, h5, h6⟩ := h
    obtain ⟨s1, s2, s3⟩ := s b h3
    refine ⟨b, cur, ty, x.bg _ _ h1, s1.trans h2, s2, s3.trans h4, h5, fun j a ha => ?_⟩
    obtain ⟨k1, v, k2, k3⟩ := h6 j a ha
    exact ⟨k1, v, k2, k3.frame x (sr j)⟩
  | row => exact h.elim
  | fwd => exact h.elim
  | gone =>
    obtain ⟨b, h1, h2⟩ := h
    exact ⟨b, x.bg _ _ h1, (s b h2).2.1⟩

theorem cell_of {w : World} {b : Nat} {cur : Array Value} {ty : TypeId} {fz : Nat × Nat} (h : w.heap[b]? = some (.cells cur ty fz)) (o : Nat) : w.cell? ⟨b, o, none⟩ = cur[o]? := cell_of_row w b o cur ty fz h

theorem shape_of {w : World} {b : Nat} {cur : Array Value} {ty : TypeId} {fz : Nat × Nat} (h : w.heap[b]? = some (.cells cur ty fz)) : w.shape? b = some (ty, cur.size) := by simp [World.shape?, h]

/-! ### a write into a block that is owned -/

/-- Block b turns: its cells, who owns it, how far it is frozen. -/
structure Put (c c' : Cx) (b : Nat) (cur cur' : Array Value) (ty : TypeId) (fz : Nat × Nat) : Prop where
  h : c.w.heap[b]? = some (.cells cur ty fz)
  w : c'.w = c.w.setRow b cur'
  sz : cur'.size = cur.size
  pre : ∀ o, o < c.lv b → cur'[o]? = cur[o]?
  lv : ∀ x, x ≠ b → c'.lv x = c.lv x
  lvb : c.lv b ≤ c'.lv b
  own : ∀ x, x ≠ b → c'.own x = c.own x
  owned : c.own b ≠ none
  bl : ∀ i x, c.bl i = some x → c'.bl i = some x
  rl : ∀ i x, c.bl i = some x → c'.rl i = c.rl i
  bg : c'.bg = c.bg
  ep : c.ep ≤ c'.ep
  gc : c'.ep = c.ep → ∀ g, c.bg g = some b → cur' = cur

theorem Put.other {c c' : Cx} {b : Nat} {cur cur' : Array Value} {ty : TypeId} {fz : Nat × Nat} (p : Put c c' b cur cur' ty fz) {x : Nat} (hx : x ≠ b) : c'.w.heap[x]? = c.w.heap[x]? := by
  rw [p.w, setRow_other _ _ _ _ hx]

theorem Put.at {c c' : Cx} {b : Nat} {cur cur' : Array Value} {ty : TypeId} {fz : Nat × Nat} (p : Put c c' b cur cur' ty fz) : c'.w.heap[b]? = some (.cells cur' ty fz) := by
  rw [p.w]; exact setRow_heap _ _ _ _ _ _ p.h

theorem Put.ext {c c' : Cx} {b : Nat} {cur cur' : Array Value} {ty : TypeId} {fz : Nat × Nat} (p : Put c c' b cur cur' ty fz) : Ext c c' where
  os := by rw [p.w]; rfl
  tape := by rw [p.w]; rfl
  output := by rw [p.w]; rfl
  size := by rw [p.w]; simp
  stay := by
    refine ⟨fun x o ho => ?_, fun x => ?_⟩
    · by_cases hx : x = b
      · subst hx
        rw [cell_of p.at, cell_of p.h, p.pre o ho]
      · exact World.cell?_of_block (a := ⟨x, o, none⟩) (p.other hx)
    · by_cases hx : x = b
      · subst hx; exact p.lvb
      · rw [p.lv x hx]; exact Nat.le_refl _
  fo := fun x _ hn => by
    have hx : x ≠ b := fun e => p.owned (e ▸ hn)
    exact ⟨p.other hx, (p.own x hx).trans hn, p.lv x hx⟩
  sh := fun x s hs => by
    by_cases hx : x = b
    · subst hx
      rw [shape_of p.h] at hs
      rw [shape_of p.at, p.sz]; exact hs
    · have := p.other hx
      simpa [World.shape?, this] using hs
  bl := p.bl
  rl := p.rl
  bg := fun g x hg => by rw [p.bg]; exact hg
  ep := p.ep
  gc := fun he g x j v hg hv => by
    by_cases hx : x = b
    · subst hx
      rw [cell_of p.at, p.gc he g hg, ← cell_of p.h]; exact hv
    · rw [World.cell?_of_block (a := ⟨x, j, none⟩) (p.other hx)]; exact hv

theorem Put.same {c c' : Cx} {b : Nat} {cur cur' : Array Value} {ty : TypeId} {fz : Nat × Nat} (p : Put c c' b cur cur' ty fz) {who : Who} (h : c.own b ≠ some who) : Same c c' who := fun x hx => by
  have hb : x ≠ b := fun e => h (e ▸ hx)
  exact ⟨p.other hb, (p.own x hb).trans hx, p.lv x hb⟩

theorem Put.wf {c c' : Cx} {b : Nat} {cur cur' : Array Value} {ty : TypeId} {fz : Nat × Nat} (p : Put c c' b cur cur' ty fz) (h : WF c) : WF c' := by
  have hb : b < c.w.heap.size := (Array.getElem?_eq_some_iff.1 p.h).1
  have hs : c'.w.heap.size = c.w.heap.size := by rw [p.w]; simp
  refine ⟨fun x hx => ?_, fun x hx => ?_⟩ <;> rw [hs] at hx
  · rw [p.lv x (by omega)]; exact h.lv x hx
  · rw [p.own x (by omega)]; exact h.own x hx

/-! ### a new block -/

structure New (c c' : Cx) (who : Who) (cur : Array Value) (ty : TypeId) (fz : Nat × Nat) : Prop where
  os : c'.w.os = c.w.os
  tape : c'.w.tape = c.w.tape
  output : c'.w.output = c.w.output
  size : c'.w.heap.size = c.w.heap.size + 1
  old : ∀ x, x < c.w.heap.size → c'.w.heap[x]? = c.w.heap[x]?
  new : c'.w.heap[c.w.heap.size]? = some (.cells cur ty fz)
  lv : ∀ x, x ≠ c.w.heap.size → c'.lv x = c.lv x
  own : ∀ x, x ≠ c.w.heap.size → c'.own x = c.own x
  ownb : c'.own c.w.heap.size = some who
  bl : ∀ i x, c.bl i = some x → c'.bl i = some x
  rl : ∀ i x, c.bl i = some x → c'.rl i = c.rl i
  bg : ∀ i x, c.bg i = some x → c'.bg i = some x
  ep : c'.ep = c.ep

theorem New.ext {c c' : Cx} {who : Who} {cur : Array Value} {ty : TypeId} {fz : Nat × Nat} (p : New c c' who cur ty fz) (wf : WF c) : Ext c c' where
  os := p.os
  tape := p.tape
  output := p.output
  size := by rw [p.size]; omega
  stay := by
    refine ⟨fun x o ho => ?_, fun x => ?_⟩
    · have hx : x < c.w.heap.size := by
        rcases Nat.lt_or_ge x c.w.heap.size with h | h
        · exact h
        · rw [wf.lv x h] at ho; omega
      exact World.cell?_of_block (a := ⟨x, o, none⟩) (p.old x hx)
    · by_cases hx : x = c.w.heap.size
      · rw [hx, wf.lv _ (Nat.le_refl _)]; exact Nat.zero_le _
      · rw [p.lv x hx]; exact Nat.le_refl _
  fo := fun x hx hn => ⟨p.old x hx, (p.own x (by omega)).trans hn, p.lv x (by omega)⟩
  sh := fun x s hs => by
    have hx : x < c.w.heap.size := by
      rcases Nat.lt_or_ge x c.w.heap.size with h | h
      · exact h
      · simp [World.shape?, Array.getElem?_eq_none h] at hs
    have := p.old x hx
    simpa [World.shape?, this] using hs
  bl := p.bl
  rl := p.rl
  bg := p.bg
  ep := by rw [p.ep]; exact Nat.le_refl _
  gc := fun _ g x j v _ hv => by
    have hx : x < c.w.heap.size := World.block_lt_of_cell? c.w ⟨x, j, none⟩ hv
    rw [World.cell?_of_block (a := ⟨x, j, none⟩) (p.old x hx)]; exact hv

theorem New.same {c c' : Cx} {who : Who} {cur : Array Value} {ty : TypeId} {fz : Nat × Nat} (p : New c c' who cur ty fz) (wf : WF c) (who' : Who) : Same c c' who' := fun x hx => by
  have hb : x < c.w.heap.size := by
    rcases Nat.lt_or_ge x c.w.heap.size with h | h
    · exact h
    · rw [wf.own x h] at hx; cases hx
  exact ⟨p.old x hb, (p.own x (by omega)).trans hx, p.lv x (by omega)⟩

theorem New.wf {c c' : Cx} {who : Who} {cur : Array Value} {ty : TypeId} {fz : Nat × Nat} (p : New c c' who cur ty fz) (h : WF c) : WF c' := by
  have hs := p.size
  refine ⟨fun x hx => ?_, fun x hx => ?_⟩
  · rw [p.lv x (by omega)]; exact h.lv x (by omega)
  · rw [p.own x (by omega)]; exact h.own x (by omega)

/-! ### a change of ghosts alone: a block is frozen further, or comes to another -/

structure Turn (c c' : Cx) (b : Nat) : Prop where
  w : c'.w = c.w
  lv : ∀ x, x ≠ b → c'.lv x = c.lv x
  lvb : c.lv b ≤ c'.lv b
  own : ∀ x, x ≠ b → c'.own x = c.own x
  owned : c.own b ≠ none
  ownd' : c'.own b ≠ none
  bl : c'.bl = c.bl
  rl : c'.rl = c.rl
  bg : ∀ i x, c.bg i = some x → c'.bg i = some x
  ep : c'.ep = c.ep

theorem Turn.ext {c c' : Cx} {b : Nat} (p : Turn c c' b) : Ext c c' where
  os := by rw [p.w]
  tape := by rw [p.w]
  output := by rw [p.w]
  size := by rw [p.w]; exact Nat.le_refl _
  stay := by
    refine ⟨fun x o _ => by rw [p.w], fun x => ?_⟩
    by_cases hx : x = b
    · subst hx; exact p.lvb
    · rw [p.lv x hx]; exact Nat.le_refl _
  fo := fun x _ hn => by
    have hx : x ≠ b := fun e => p.owned (e ▸ hn)
    exact ⟨by rw [p.w], (p.own x hx).trans hn, p.lv x hx⟩
  sh := fun x s hs => by rw [p.w]; exact hs
  bl := fun i x hi => by rw [p.bl]; exact hi
  rl := fun i x _ => by rw [p.rl]
  bg := p.bg
  ep := by rw [p.ep]; exact Nat.le_refl _
  gc := fun _ g x j v _ hv => by rw [p.w]; exact hv

theorem Turn.same {c c' : Cx} {b : Nat} (p : Turn c c' b) {who : Who} (h : c.own b ≠ some who) : Same c c' who := fun x hx => by
  have hb : x ≠ b := fun e => h (e ▸ hx)
  exact ⟨by rw [p.w], (p.own x hb).trans hx, p.lv x hb⟩

theorem Turn.wf {c c' : Cx} {b : Nat} (p : Turn c c' b) (h : WF c) (hb : b < c.w.heap.size) : WF c' := by
  refine ⟨fun x hx => ?_, fun x hx => ?_⟩ <;> rw [p.w] at hx
  · rw [p.lv x (by omega)]; exact h.lv x hx
  · rw [p.own x (by omega)]; exact h.own x hx

/-- The world drawn on: nothing turns. -/
theorem MemOk.lt_own {c : Cx} (wf : WF c) {b : Nat} {who : Who} (h : c.own b = some who) : b < c.w.heap.size := by
  rcases Nat.lt_or_ge b c.w.heap.size with h' | h'
  · exact h'
  · rw [wf.own b h'] at h; cases h

/-- another world with the same heap -/
structure Drawn (c c' : Cx) : Prop where
  heap : c'.w.heap = c.w.heap
  os : c'.w.os = c.w.os
  tape : c'.w.tape = c.w.tape
  output : c'.w.output = c.w.output
  lv : c'.lv = c.lv
  own : c'.own = c.own
  bl : c'.bl = c.bl
  rl : c'.rl = c.rl
  bg : c'.bg = c.bg
  ep : c.ep ≤ c'.ep

theorem Drawn.ext {c c' : Cx} (p : Drawn c c') : Ext c c' where
  os := p.os
  tape := p.tape
  output := p.output
  size := by rw [p.heap]; exact Nat.le_refl _
  stay := ⟨fun x o _ => World.cell?_of_block (a := ⟨x, o, none⟩) (by rw [p.heap]), fun x => by rw [p.lv]; exact Nat.le_refl _⟩
  fo := fun x _ hn => ⟨by rw [p.heap], by rw [p.own]; exact hn, by rw [p.lv]⟩
  sh := fun x s hs => by simpa [World.shape?, p.heap] using hs
  bl := fun i x hi => by rw [p.bl]; exact hi
  rl := fun i x _ => by rw [p.rl]
  bg := fun i x hi => by rw [p.bg]; exact hi
  ep := p.ep
  gc := fun _ g x j v _ hv => by rw [World.cell?_of_block (a := ⟨x, j, none⟩) (w := c.w) (by rw [p.heap])]; exact hv

theorem Drawn.same {c c' : Cx} (p : Drawn c c') (who : Who) : Same c c' who := fun x hx => ⟨by rw [p.heap], by rw [p.own]; exact hx, by rw [p.lv]⟩

theorem Drawn.wf {c c' : Cx} (p : Drawn c c') (h : WF c) : WF c' :=
  ⟨fun x hx => by rw [p.lv]; exact h.lv x (by rw [← p.heap]; exact hx), fun x hx => by rw [p.own]; exact h.own x (by rw [← p.heap]; exact hx)⟩

theorem Drawn.mem {c c' : Cx} {m : Mem} (p : Drawn c c') (h : MemOk c m) : MemOk c' { m with ep := c'.ep } where
  wf := p.wf h.wf
  ep := rfl
  ln := fun i hi => by rw [p.bl]; exact h.ln i hi
  l := fun i e hi => (h.l i e hi).frame p.ext (p.same _)
  gn := fun i hi => by rw [p.bg]; exact h.gn i hi
  g := fun i e hi => (h.g i e hi).frame p.ext (p.same _) (fun _ => p.same _)

end Go.Eng
