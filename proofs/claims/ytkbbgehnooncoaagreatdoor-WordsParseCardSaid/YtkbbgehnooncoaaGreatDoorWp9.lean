/- Steps of the memory: what stays, what a write, a new block, a freezing leave. -/
import Derived.Test.YtkbbgehnooncoaaGreatDoorWp8
section
namespace Go.Eng
open Go Go.RowKit
variable [Inhabited Pkg]
set_option linter.unusedSectionVars false

def Same (c c' : Cx) (who : Who) : Prop := ∀ b, c.own b = some who → c'.w.heap[b]? = c.w.heap[b]? ∧ c'.own b = some who ∧ c'.lv b = c.lv b

theorem Same.refl (c : Cx) (who : Who) : Same c c who := fun _ h => ⟨rfl, h, rfl⟩

theorem Same.trans {a b c : Cx} {who : Who} (h : Same a b who) (k : Same b c who) : Same a c who := fun x hx => by
  obtain ⟨h1, h2, h3⟩ := h x hx
  obtain ⟨k1, k2, k3⟩ := k x h2
  exact ⟨k1.trans h1, k2, k3.trans h3⟩

theorem RowC.ext {c c' : Cx} (x : Ext c c') {sz : Nat} {xs : Row} {cur : Array Value} (h : RowC c sz xs cur) : RowC c' sz xs cur :=
  ⟨h.hsz, fun k e j d h1 h2 => by obtain ⟨v, hv, hd⟩ := h.hc k e j d h1 h2; exact ⟨v, hv, hd.stay x.stay⟩⟩

theorem RowOk.frame {c c' : Cx} {who : Who} {b cap sz : Nat} {xs : Row} {m : Mode} (x : Ext c c') (s : Same c c' who) (h : RowOk c who b cap sz xs m) : RowOk c' who b cap sz xs m := by
  obtain ⟨⟨cur, ty, fz, h1, h2, h3, h4, h4'⟩, h5, h6, h7, h8, h9, h10⟩ := h
  obtain ⟨s1, s2, s3⟩ := s b h8
  exact ⟨⟨cur, ty, fz, s1.trans h1, h2, h3, h4.ext x, h4'⟩, h5, h6, h7, s2, h9, s3.trans h10⟩

theorem CellsL.ext {c c' : Cx} (x : Ext c c') {cs : List AV} {cur : Array Value} (h : CellsL c cs cur) : CellsL c' cs cur :=
  ⟨h.1, fun j a ha => by obtain ⟨v, hv, hd⟩ := h.2 j a ha; exact ⟨v, hv, hd.ext x⟩⟩

theorem EOk.frame {c c' : Cx} {i : Nat} {e : Ent} (x : Ext c c') (s : Same c c' (.lent i)) (h : EOk c i e) : EOk c' i e := by
  cases e with
  | obj cs =>
    obtain ⟨b, cur, ty, h1, h2, h3, h4, h5⟩ := h
    obtain ⟨s1, s2, s3⟩ := s b h3
    exact ⟨b, cur, ty, x.bl _ _ h1, s1.trans h2, s2, s3.trans h4, h5.ext x⟩
  | row m sz xs =>
    obtain ⟨b, cap, h1, h1', h2⟩ := h
    refine ⟨b, cap, x.bl _ _ h1, (x.rl _ _ h1).trans h1', ?_⟩
    cases m with
    | ro => exact ⟨h2.1.stay x.stay, h2.2⟩
    | own => exact h2.frame x s
    | excl => exact h2.frame x s
  | fwd g =>
    obtain ⟨b, h1, h2⟩ := h
    exact ⟨b, x.bl _ _ h1, x.bg _ _ h2⟩
  | lrec => exact h.elim
  | gone => trivial

theorem CL.frame {c c' : Cx} {g j : Nat} {a : AV} {v : Value} (x : Ext c c') (s : Same c c' (.grow g j)) (h : CL c g j a v) : CL c' g j a v := by
  unfold CL at h ⊢
  cases a <;> first
    | exact VL.ext x h
    | (obtain ⟨b, cap, h1, h2⟩ := h; exact ⟨b, cap, h1, h2.frame x s⟩)

theorem GOk.frame {c c' : Cx} {g : Nat} {e : Ent} (x : Ext c c') (s : Same c c' (.gobj g)) (sr : ∀ j, Same c c' (.grow g j)) (h : GOk c g e) : GOk c' g e := by
  cases e with
  | obj cs =>
    obtain ⟨b, cur, ty, h1, h2, h3, h4, h5, h6⟩ := h
    obtain ⟨s1, s2, s3⟩ := s b h3
    refine ⟨b, cur, ty, x.bg _ _ h1, s1.trans h2, s2, s3.trans h4, h5, fun j a ha => ?_⟩
    obtain ⟨k1, v, k2, k3⟩ := h6 j a ha
    exact ⟨k1, v, k2, k3.frame x (sr j)⟩
  | row => exact h.elim
  | fwd => exact h.elim
  | lrec ls ts ps asg body =>
    obtain ⟨l, r, h1, h2, h3, h4, h5, h6, h7, h8, h9, h10, h11⟩ := h
    obtain ⟨s1, s2, s3⟩ := s l h3
    refine ⟨l, r, x.bg _ _ h1, s1.trans h2, s2, s3.trans h4, h5, h6, h7, h8, h9, h10, fun j a ha => ?_⟩
    obtain ⟨k1, v, k2, k3⟩ := h11 j a ha
    exact ⟨k1, v, k2, k3.ext x⟩
  | gone =>
    obtain ⟨b, h1, h2⟩ := h
    exact ⟨b, x.bg _ _ h1, (s b h2).2.1⟩

theorem cell_of {w : World} {b : Nat} {cur : Array Value} {ty : TypeId} {fz : Nat × Nat} (h : w.heap[b]? = some (.cells cur ty fz)) (o : Nat) : w.cell? ⟨b, o, none⟩ = cur[o]? := cell_of_row w b o cur ty fz h

theorem shape_of {w : World} {b : Nat} {cur : Array Value} {ty : TypeId} {fz : Nat × Nat} (h : w.heap[b]? = some (.cells cur ty fz)) : w.shape? b = some (ty, cur.size) := by simp [World.shape?, h]

/-! ### a write into a block that is owned -/

/-- Block b turns: its cells, who owns it, how far it is frozen. -/
structure Put (c c' : Cx) (b : Nat) (cur cur' : Array Value) (ty : TypeId) (fz : Nat × Nat) : Prop where
  h : c.w.heap[b]? = some (.cells cur ty fz)
  w : c'.w = c.w.setRow b cur'
  sz : cur'.size = cur.size
  pre : ∀ o, o < c.lv b → cur'[o]? = cur[o]?
  lv : ∀ x, x ≠ b → c'.lv x = c.lv x
  lvb : c.lv b ≤ c'.lv b
  own : ∀ x, x ≠ b → c'.own x = c.own x
  owned : c.own b ≠ none
  bl : ∀ i x, c.bl i = some x → c'.bl i = some x
  rl : ∀ i x, c.bl i = some x → c'.rl i = c.rl i
  bg : c'.bg = c.bg
  ep : c.ep ≤ c'.ep
  gc : c'.ep = c.ep → ∀ g, c.bg g = some b → cur' = cur

theorem Put.other {c c' : Cx} {b : Nat} {cur cur' : Array Value} {ty : TypeId} {fz : Nat × Nat} (p : Put c c' b cur cur' ty fz) {x : Nat} (hx : x ≠ b) : c'.w.heap[x]? = c.w.heap[x]? := by
  rw [p.w, setRow_other _ _ _ _ hx]

theorem Put.at {c c' : Cx} {b : Nat} {cur cur' : Array Value} {ty : TypeId} {fz : Nat × Nat} (p : Put c c' b cur cur' ty fz) : c'.w.heap[b]? = some (.cells cur' ty fz) := by
  rw [p.w]; exact setRow_heap _ _ _ _ _ _ p.h

theorem Put.ext {c c' : Cx} {b : Nat} {cur cur' : Array Value} {ty : TypeId} {fz : Nat × Nat} (p : Put c c' b cur cur' ty fz) : Ext c c' where
  os := by rw [p.w]; rfl
  tape := by rw [p.w]; rfl
  output := by rw [p.w]; rfl
  size := by rw [p.w]; simp
  stay := by
    refine ⟨fun x o ho => ?_, fun x => ?_⟩
    · by_cases hx : x = b
      · subst hx
        rw [cell_of p.at, cell_of p.h, p.pre o ho]
      · exact World.cell?_of_block (a := ⟨x, o, none⟩) (p.other hx)
    · by_cases hx : x = b
      · subst hx; exact p.lvb
      · rw [p.lv x hx]; exact Nat.le_refl _
  fo := fun x _ hn => by
    have hx : x ≠ b := fun e => p.owned (e ▸ hn)
    exact ⟨p.other hx, (p.own x hx).trans hn, p.lv x hx⟩
  sh := fun x s hs => by
    by_cases hx : x = b
    · subst hx
      rw [shape_of p.h] at hs
      rw [shape_of p.at, p.sz]; exact hs
    · have := p.other hx
      simpa [World.shape?, this] using hs
  bl := p.bl
  rl := p.rl
  bg := fun g x hg => by rw [p.bg]; exact hg
  ep := p.ep
  gc := fun he g x j v hg hv => by
    by_cases hx : x = b
    · subst hx
      rw [cell_of p.at, p.gc he g hg, ← cell_of p.h]; exact hv
    · rw [World.cell?_of_block (a := ⟨x, j, none⟩) (p.other hx)]; exact hv

theorem Put.same {c c' : Cx} {b : Nat} {cur cur' : Array Value} {ty : TypeId} {fz : Nat × Nat} (p : Put c c' b cur cur' ty fz) {who : Who} (h : c.own b ≠ some who) : Same c c' who := fun x hx => by
  have hb : x ≠ b := fun e => h (e ▸ hx)
  exact ⟨p.other hb, (p.own x hb).trans hx, p.lv x hb⟩

theorem Put.wf {c c' : Cx} {b : Nat} {cur cur' : Array Value} {ty : TypeId} {fz : Nat × Nat} (p : Put c c' b cur cur' ty fz) (h : WF c) : WF c' := by
  have hb : b < c.w.heap.size := (Array.getElem?_eq_some_iff.1 p.h).1
  have hs : c'.w.heap.size = c.w.heap.size := by rw [p.w]; simp
  refine ⟨fun x hx => ?_, fun x hx => ?_, h.pk.stay p.ext.stay p.ext.sh⟩ <;> rw [hs] at hx
  · rw [p.lv x (by omega)]; exact h.lv x hx
  · rw [p.own x (by omega)]; exact h.own x hx

/-! ### a new block -/

structure New (c c' : Cx) (who : Who) (cur : Array Value) (ty : TypeId) (fz : Nat × Nat) : Prop where
  os : c'.w.os = c.w.os
  tape : c'.w.tape = c.w.tape
  output : c'.w.output = c.w.output
  size : c'.w.heap.size = c.w.heap.size + 1
  old : ∀ x, x < c.w.heap.size → c'.w.heap[x]? = c.w.heap[x]?
  new : c'.w.heap[c.w.heap.size]? = some (.cells cur ty fz)
  lv : ∀ x, x ≠ c.w.heap.size → c'.lv x = c.lv x
  own : ∀ x, x ≠ c.w.heap.size → c'.own x = c.own x
  ownb : c'.own c.w.heap.size = some who
  bl : ∀ i x, c.bl i = some x → c'.bl i = some x
  rl : ∀ i x, c.bl i = some x → c'.rl i = c.rl i
  bg : ∀ i x, c.bg i = some x → c'.bg i = some x
  ep : c'.ep = c.ep

theorem New.ext {c c' : Cx} {who : Who} {cur : Array Value} {ty : TypeId} {fz : Nat × Nat} (p : New c c' who cur ty fz) (wf : WF c) : Ext c c' where
  os := p.os
  tape := p.tape
  output := p.output
  size := by rw [p.size]; omega
  stay := by
    refine ⟨fun x o ho => ?_, fun x => ?_⟩
    · have hx : x < c.w.heap.size := by
        rcases Nat.lt_or_ge x c.w.heap.size with h | h
        · exact h
        · rw [wf.lv x h] at ho; omega
      exact World.cell?_of_block (a := ⟨x, o, none⟩) (p.old x hx)
    · by_cases hx : x = c.w.heap.size
      · rw [hx, wf.lv _ (Nat.le_refl _)]; exact Nat.zero_le _
      · rw [p.lv x hx]; exact Nat.le_refl _
  fo := fun x hx hn => ⟨p.old x hx, (p.own x (by omega)).trans hn, p.lv x (by omega)⟩
  sh := fun x s hs => by
    have hx : x < c.w.heap.size := by
      rcases Nat.lt_or_ge x c.w.heap.size with h | h
      · exact h
      · simp [World.shape?, Array.getElem?_eq_none h] at hs
    have := p.old x hx
    simpa [World.shape?, this] using hs
  bl := p.bl
  rl := p.rl
  bg := p.bg
  ep := by rw [p.ep]; exact Nat.le_refl _
  gc := fun _ g x j v _ hv => by
    have hx : x < c.w.heap.size := World.block_lt_of_cell? c.w ⟨x, j, none⟩ hv
    rw [World.cell?_of_block (a := ⟨x, j, none⟩) (p.old x hx)]; exact hv

theorem New.same {c c' : Cx} {who : Who} {cur : Array Value} {ty : TypeId} {fz : Nat × Nat} (p : New c c' who cur ty fz) (wf : WF c) (who' : Who) : Same c c' who' := fun x hx => by
  have hb : x < c.w.heap.size := by
    rcases Nat.lt_or_ge x c.w.heap.size with h | h
    · exact h
    · rw [wf.own x h] at hx; cases hx
  exact ⟨p.old x hb, (p.own x (by omega)).trans hx, p.lv x (by omega)⟩

theorem New.wf {c c' : Cx} {who : Who} {cur : Array Value} {ty : TypeId} {fz : Nat × Nat} (p : New c c' who cur ty fz) (h : WF c) : WF c' := by
  have hs := p.size
  refine ⟨fun x hx => ?_, fun x hx => ?_, h.pk.stay (p.ext h).stay (p.ext h).sh⟩
  · rw [p.lv x (by omega)]; exact h.lv x (by omega)
  · rw [p.own x (by omega)]; exact h.own x (by omega)

/-! ### a change of ghosts alone: a block is frozen further, or comes to another -/

structure Turn (c c' : Cx) (b : Nat) : Prop where
  w : c'.w = c.w
  lv : ∀ x, x ≠ b → c'.lv x = c.lv x
  lvb : c.lv b ≤ c'.lv b
  own : ∀ x, x ≠ b → c'.own x = c.own x
  owned : c.own b ≠ none
  ownd' : c'.own b ≠ none
  bl : c'.bl = c.bl
  rl : c'.rl = c.rl
  bg : ∀ i x, c.bg i = some x → c'.bg i = some x
  ep : c'.ep = c.ep

theorem Turn.ext {c c' : Cx} {b : Nat} (p : Turn c c' b) : Ext c c' where
  os := by rw [p.w]
  tape := by rw [p.w]
  output := by rw [p.w]
  size := by rw [p.w]; exact Nat.le_refl _
  stay := by
    refine ⟨fun x o _ => by rw [p.w], fun x => ?_⟩
    by_cases hx : x = b
    · subst hx; exact p.lvb
    · rw [p.lv x hx]; exact Nat.le_refl _
  fo := fun x _ hn => by
    have hx : x ≠ b := fun e => p.owned (e ▸ hn)
    exact ⟨by rw [p.w], (p.own x hx).trans hn, p.lv x hx⟩
  sh := fun x s hs => by rw [p.w]; exact hs
  bl := fun i x hi => by rw [p.bl]; exact hi
  rl := fun i x _ => by rw [p.rl]
  bg := p.bg
  ep := by rw [p.ep]; exact Nat.le_refl _
  gc := fun _ g x j v _ hv => by rw [p.w]; exact hv

theorem Turn.same {c c' : Cx} {b : Nat} (p : Turn c c' b) {who : Who} (h : c.own b ≠ some who) : Same c c' who := fun x hx => by
  have hb : x ≠ b := fun e => h (e ▸ hx)
  exact ⟨by rw [p.w], (p.own x hb).trans hx, p.lv x hb⟩

theorem Turn.wf {c c' : Cx} {b : Nat} (p : Turn c c' b) (h : WF c) (hb : b < c.w.heap.size) : WF c' := by
  refine ⟨fun x hx => ?_, fun x hx => ?_, h.pk.stay p.ext.stay p.ext.sh⟩ <;> rw [p.w] at hx
  · rw [p.lv x (by omega)]; exact h.lv x hx
  · rw [p.own x (by omega)]; exact h.own x hx

/-- The world drawn on: nothing turns. -/
theorem MemOk.lt_own {c : Cx} (wf : WF c) {b : Nat} {who : Who} (h : c.own b = some who) : b < c.w.heap.size := by
  rcases Nat.lt_or_ge b c.w.heap.size with h' | h'
  · exact h'
  · rw [wf.own b h'] at h; cases h

/-- another world with the same heap -/
structure Drawn (c c' : Cx) : Prop where
  heap : c'.w.heap = c.w.heap
  os : c'.w.os = c.w.os
  tape : c'.w.tape = c.w.tape
  output : c'.w.output = c.w.output
  lv : c'.lv = c.lv
  own : c'.own = c.own
  bl : c'.bl = c.bl
  rl : c'.rl = c.rl
  bg : c'.bg = c.bg
  ep : c.ep ≤ c'.ep

theorem Drawn.ext {c c' : Cx} (p : Drawn c c') : Ext c c' where
  os := p.os
  tape := p.tape
  output := p.output
  size := by rw [p.heap]; exact Nat.le_refl _
  stay := ⟨fun x o _ => World.cell?_of_block (a := ⟨x, o, none⟩) (by rw [p.heap]), fun x => by rw [p.lv]; exact Nat.le_refl _⟩
  fo := fun x _ hn => ⟨by rw [p.heap], by rw [p.own]; exact hn, by rw [p.lv]⟩
  sh := fun x s hs => by simpa [World.shape?, p.heap] using hs
  bl := fun i x hi => by rw [p.bl]; exact hi
  rl := fun i x _ => by rw [p.rl]
  bg := fun i x hi => by rw [p.bg]; exact hi
  ep := p.ep
  gc := fun _ g x j v _ hv => by rw [World.cell?_of_block (a := ⟨x, j, none⟩) (w := c.w) (by rw [p.heap])]; exact hv

theorem Drawn.same {c c' : Cx} (p : Drawn c c') (who : Who) : Same c c' who := fun x hx => ⟨by rw [p.heap], by rw [p.own]; exact hx, by rw [p.lv]⟩

theorem Drawn.wf {c c' : Cx} (p : Drawn c c') (h : WF c) : WF c' :=
  ⟨fun x hx => by rw [p.lv]; exact h.lv x (by rw [← p.heap]; exact hx), fun x hx => by rw [p.own]; exact h.own x (by rw [← p.heap]; exact hx), h.pk.stay p.ext.stay p.ext.sh⟩

theorem Drawn.mem {c c' : Cx} {m : Mem} (p : Drawn c c') (h : MemOk c m) : MemOk c' { m with ep := c'.ep } where
  wf := p.wf h.wf
  ep := rfl
  ln := fun i hi => by rw [p.bl]; exact h.ln i hi
  l := fun i e hi => (h.l i e hi).frame p.ext (p.same _)
  gn := fun i hi => by rw [p.bg]; exact h.gn i hi
  g := fun i e hi => (h.g i e hi).frame p.ext (p.same _) (fun _ => p.same _)

end Go.Eng
end

/- The evaluator's memory, step by step: what is told as data, kept, handed on, given away. -/
section
namespace Go.Eng
open Go Go.RowKit
variable [Inhabited Pkg]
set_option linter.unusedSectionVars false

theorem MemOk.of {c c' : Cx} {m m' : Mem} (h : MemOk c m) (x : Ext c c') (wf : WF c') (ep : c'.ep = m'.ep)
    (hl : ∀ i e, m'.L[i]? = some (some e) → (m.L[i]? = some (some e) ∧ Same c c' (.lent i)) ∨ EOk c' i e)
    (hn : ∀ i, (m'.L[i]? = some none ∨ m'.L.length ≤ i) → c'.bl i = none)
    (hg : ∀ g e, m'.G[g]? = some e → (m.G[g]? = some e ∧ Same c c' (.gobj g) ∧ ∀ j, Same c c' (.grow g j)) ∨ GOk c' g e)
    (hgn : ∀ g, m'.G.length ≤ g → c'.bg g = none) : MemOk c' m' where
  wf := wf
  ep := ep
  ln := hn
  l := fun i e hi => by
    rcases hl i e hi with ⟨h1, h2⟩ | h1
    · exact (h.l i e h1).frame x h2
    · exact h1
  gn := hgn
  g := fun i e hi => by
    rcases hg i e hi with ⟨h1, h2, h3⟩ | h1
    · exact (h.g i e h1).frame x h2 h3
    · exact h1

/-- a block that an object of everybody's is in is that object's -/
theorem MemOk.bgown {c : Cx} {m : Mem} (h : MemOk c m) {g b : Nat} (hg : c.bg g = some b) : c.own b = some (.gobj g) := by
  rcases Nat.lt_or_ge g m.G.length with hl | hl
  · have hx : m.G[g]? = some m.G[g] := by simp [hl]
    have := h.g g _ hx
    revert this
    cases m.G[g] with
    | obj cs =>
      rintro ⟨b', cur, ty, h1, h2, h3, _⟩
      rw [hg] at h1
      injection h1 with h1
      rw [h1]; exact h3
    | row => exact fun h => h.elim
    | fwd => exact fun h => h.elim
    | lrec =>
      rintro ⟨l, r, h1, _, h2, _⟩
      rw [hg] at h1
      injection h1 with h1
      rw [h1]; exact h2
    | gone =>
      rintro ⟨b', h1, h2⟩
      rw [hg] at h1
      injection h1 with h1
      rw [h1]; exact h2
  · rw [h.gn g hl] at hg; cases hg

theorem set_get {α : Type} (l : List α) (i k : Nat) (a : α) : (l.set i a)[k]? = if i = k ∧ i < l.length then some a else l[k]? := by
  rw [List.getElem?_set]
  by_cases h : i = k
  · subst h
    by_cases h2 : i < l.length
    · simp [h2]
    · simp [h2]
  · simp [h]

theorem MemOk.setL {c c' : Cx} {m : Mem} {i : Nat} {e0 e : Ent} (h : MemOk c m) (hi : m.L[i]? = some (some e0)) (x : Ext c c') (wf : WF c') (hep : c'.ep = c.ep)
    (hbl : c'.bl = c.bl) (hbg : c'.bg = c.bg) (s : ∀ who, who ≠ .lent i → Same c c' who) (he : EOk c' i e) : MemOk c' (m.set (.loc i) e) := by
  have hlt := (List.getElem?_eq_some_iff.1 hi).1
  refine h.of x wf (by rw [hep]; exact h.ep) (fun k e1 hk => ?_) (fun k hk => ?_) (fun g e1 hg => ?_) (fun g hg => ?_)
  · simp only [Mem.set] at hk
    rw [set_get] at hk
    split at hk
    · rename_i h1
      injection hk with hk
      injection hk with hk
      subst hk
      rw [← h1.1]; exact .inr he
    · rename_i h1
      exact .inl ⟨hk, s _ (fun e2 => h1 ⟨by injection e2 with e2; exact e2.symm, hlt⟩)⟩
  · simp only [Mem.set, List.length_set] at hk
    rw [hbl]
    rw [set_get] at hk
    split at hk
    · rename_i h1
      rcases hk with hk | hk
      · cases hk
      · omega
    · exact h.ln k hk
  · exact .inl ⟨hg, s _ (by simp), fun j => s _ (by simp)⟩
  · rw [hbg]; exact h.gn g hg

theorem MemOk.fresh {c c' : Cx} {m : Mem} {i : Nat} {e : Ent} (h : MemOk c m) (hi : m.L[i]? = some none) (x : Ext c c') (wf : WF c') (hep : c'.ep = c.ep)
    (hbl : ∀ k, k ≠ i → c'.bl k = c.bl k) (hbg : c'.bg = c.bg) (s : ∀ who, Same c c' who) (he : EOk c' i e) : MemOk c' (m.set (.loc i) e) := by
  have hlt := (List.getElem?_eq_some_iff.1 hi).1
  refine h.of x wf (by rw [hep]; exact h.ep) (fun k e1 hk => ?_) (fun k hk => ?_) (fun g e1 hg => ?_) (fun g hg => ?_)
  · simp only [Mem.set] at hk
    rw [set_get] at hk
    split at hk
    · rename_i h1
      injection hk with hk
      injection hk with hk
      subst hk
      rw [← h1.1]; exact .inr he
    · exact .inl ⟨hk, s _⟩
  · simp only [Mem.set, List.length_set] at hk
    rw [set_get] at hk
    split at hk
    · rename_i h1
      rcases hk with hk | hk
      · cases hk
      · omega
    · rename_i h1
      rw [hbl k (fun e2 => h1 ⟨e2.symm, hlt⟩)]
      exact h.ln k hk
  · exact .inl ⟨hg, s _, fun j => s _⟩
  · rw [hbg]; exact h.gn g hg

/-! ### a part of a list -/

theorem sub_get {α : Type} (xs : List α) (off len k : Nat) : ((xs.drop off).take len)[k]? = if k < len then xs[off + k]? else none := by
  rw [List.getElem?_take]
  split
  · rw [List.getElem?_drop]
  · rfl

theorem sub_length {α : Type} (xs : List α) (off len : Nat) (h : off + len ≤ xs.length) : ((xs.drop off).take len).length = len := by
  simp; omega

theorem RD.sub {w : World} {lv : Nat → Nat} {k k' : LK} {sz : Nat} {xs : Row} {b o n cap off len cap' : Nat} (r : RD w lv (.list k sz xs) (.slice (some ⟨b, o, none⟩) n cap))
    (h : off + len ≤ xs.length) (h1 : len ≤ cap') (h2 : cap' ≤ maxLen) (hk' : k' ≠ .nil) (hf' : k' = .full → cap' = len) : RD w lv (.list k' sz ((xs.drop off).take len)) (.slice (some ⟨b, o + off * sz, none⟩) len cap') := by
  cases r with
  | void sz a hk =>
    have e1 : off = 0 := by simp at h; omega
    have e2 : len = 0 := by simp at h; omega
    subst e1 e2
    simp only [List.drop_zero, List.take_nil]
    exact .list (xs := []) (fun _ _ => default) (by simp) (by simp) h2 (by simp) (by simp) (by simp) hk' hf'
  | list vs hsz hcap hmax hlv hc hr hk hfu =>
    have hlen := sub_length xs off len h
    have := RD.list (w := w) (lv := lv) (k := k') (sz := sz) (xs := (xs.drop off).take len) (b := b) (o := o + off * sz) (cap := cap') (fun k j => vs (off + k) j)
      (fun x hx => hsz x (List.mem_of_mem_drop (List.mem_of_mem_take hx))) (by rw [hlen]; exact h1) h2
      (fun hp => by
        rw [hlen] at hp ⊢
        have h3 := hlv (by omega)
        have h4 : (off + len) * sz ≤ xs.length * sz := Nat.mul_le_mul_right _ h
        rw [Nat.add_mul] at h4
        omega)
      (fun k x j d hx hd => by
        rw [sub_get] at hx
        split at hx
        · have := hc (off + k) x j d hx hd
          rw [Nat.add_mul] at this
          rw [← this]
          congr 2
          omega
        · cases hx)
      (fun k x j d hx hd => by
        rw [sub_get] at hx
        split at hx
        · exact hr (off + k) x j d hx hd
        · cases hx) hk' (fun e => by rw [hlen]; exact hf' e)
    rw [hlen] at this
    exact this

theorem RD.empty (w : World) (lv : Nat → Nat) {k : LK} (hk : k ≠ .nil) (sz : Nat) (a : Addr) (ha : a.spot = none) : RD w lv (.list k sz []) (.slice (some a) 0 0) := by
  obtain ⟨b, o, sp⟩ := a
  simp only at ha
  subst ha
  exact .list (xs := []) (fun _ _ => default) (by simp) (Nat.le_refl _) (Nat.zero_le _) (by simp) (by simp) (by simp) hk (by simp)

/-- the cells of a row whose prefix is frozen read as a list -/
theorem RowC.rd {c : Cx} {sz : Nat} {xs : Row} {cur : Array Value} {b cap : Nat} {ty : TypeId} {fz : Nat × Nat} (h : RowC c sz xs cur) (hh : c.w.heap[b]? = some (.cells cur ty fz))
    (hcap : xs.length ≤ cap) (hmax : cap ≤ maxLen) (hlv : xs.length * sz ≤ c.lv b) : RD c.w c.lv (.list .any sz xs) (.slice (some ⟨b, 0, none⟩) xs.length cap) := by
  have key : ∀ k x j d, xs[k]? = some x → x[j]? = some d → cur[k * sz + j]? = some (cur.getD (k * sz + j) default) ∧ RD c.w c.lv d (cur.getD (k * sz + j) default) := by
    intro k x j d hx hd
    obtain ⟨v, hv, hr⟩ := h.hc k x j d hx hd
    have : cur.getD (k * sz + j) default = v := by simp [Array.getD_eq_getD_getElem?, hv]
    rw [this]; exact ⟨hv, hr⟩
  exact .list (fun k j => cur.getD (k * sz + j) default) h.hsz hcap hmax (fun _ => by omega)
    (fun k x j d hx hd => by rw [Nat.zero_add, cell_of hh]; exact (key k x j d hx hd).1) (fun k x j d hx hd => (key k x j d hx hd).2) (by simp) (by simp)

/-! ### ghosts alone -/

structure Ghost (c c' : Cx) : Prop where
  w : c'.w = c.w
  ext : Ext c c'
  ep : c'.ep = c.ep

theorem Ghost.refl (c : Cx) : Ghost c c := ⟨rfl, .refl _, rfl⟩
theorem Ghost.trans {a b c : Cx} (h : Ghost a b) (k : Ghost b c) : Ghost a c := ⟨k.w.trans h.w, h.ext.trans k.ext, k.ep.trans h.ep⟩
theorem Turn.ghost {c c' : Cx} {b : Nat} (t : Turn c c' b) : Ghost c c' := ⟨t.w, t.ext, t.ep⟩

/-- block b is frozen up to n -/
def Cx.freeze (c : Cx) (b n : Nat) : Cx := { c with lv := fun x => if x = b then n else c.lv x }

theorem Cx.freeze_turn (c : Cx) (b n : Nat) (h : c.lv b ≤ n) (ho : c.own b ≠ none) : Turn c (c.freeze b n) b :=
  ⟨rfl, fun x hx => by simp [Cx.freeze, hx], by simp [Cx.freeze, h], fun _ _ => rfl, ho, ho, rfl, rfl, fun _ _ h => h, rfl⟩

/-- an exclusive row is frozen -/
theorem RowOk.froze {c : Cx} {who : Who} {b cap sz : Nat} {xs : Row} (h : RowOk c who b cap sz xs .excl) :
    RowOk (c.freeze b (xs.length * sz)) who b cap sz xs .own ∧ RD (c.freeze b (xs.length * sz)).w (c.freeze b (xs.length * sz)).lv (.list .any sz xs) (.slice (some ⟨b, 0, none⟩) xs.length cap) := by
  obtain ⟨⟨cur, ty, fz, h1, h2, h3, h4, h4'⟩, h5, h6, h7, h8, h9, h10⟩ := h
  simp only [Mode.lv] at h10
  have t := c.freeze_turn b (xs.length * sz) (by omega) (by rw [h8]; simp)
  have h4e := h4.ext t.ext
  refine ⟨⟨⟨cur, ty, fz, h1, h2, h3, h4e, h4'⟩, h5, h6, h7, h8, by simp, by simp [Cx.freeze, Mode.lv]⟩, ?_⟩
  exact h4e.rd h1 h5 h6 (by simp [Cx.freeze])

theorem RowOk.rd {c : Cx} {who : Who} {b cap sz : Nat} {xs : Row} (h : RowOk c who b cap sz xs .own) : RD c.w c.lv (.list .any sz xs) (.slice (some ⟨b, 0, none⟩) xs.length cap) := by
  obtain ⟨⟨cur, ty, fz, h1, h2, h3, h4, h4'⟩, h5, h6, h7, h8, h9, h10⟩ := h
  exact h4.rd h1 h5 h6 (by rw [h10]; exact Nat.le_refl _)

theorem LK.of_ne (f : Bool) : LK.of f ≠ .nil := by cases f <;> simp [LK.of]

theorem LK.of_full {f : Bool} (h : LK.of f = .full) : f = true := by cases f <;> simp_all [LK.of]

/-- of a list that is known to be as long as its room, it may be forgotten -/
theorem RD.any {w : World} {lv : Nat → Nat} {k : LK} {sz : Nat} {xs : Row} {a : Addr} {len cap : Nat} (r : RD w lv (.list k sz xs) (.slice (some a) len cap)) : RD w lv (.list .any sz xs) (.slice (some a) len cap) := by
  cases r with
  | list vs hsz hcap hmax hlv hc hr hk hfu => exact .list vs hsz hcap hmax hlv hc hr (by simp) (by simp)
  | void sz a hk => exact .void sz a (by simp)

theorem SliceAt.sub {w w' : World} {lv : Nat → Nat} {f : Bool} {k : LK} {b sz off len n cap : Nat} {xs : Row} {v : Value} (h : SliceAt w f b sz off len v) (hl : off + len ≤ xs.length)
    (r : RD w' lv (.list k sz xs) (.slice (some ⟨b, 0, none⟩) n cap)) : RD w' lv (.list (.of f) sz ((xs.drop off).take len)) v := by
  obtain ⟨ad, cap', ty, m, rfl, h1, h2, h3, h4, h5, h6⟩ := h
  rcases h6 with rfl | ⟨rfl, rfl, _, hs⟩
  · have := r.sub (k' := .of f) hl h2 h3 (LK.of_ne f) (fun e => h5 (LK.of_full e))
    rwa [Nat.zero_add] at this
  · simp only [List.take_zero]
    exact .empty _ _ (LK.of_ne f) _ _ hs

theorem mem_setRow {m : Mem} {g j : Nat} {cs : List AV} (h : m.G[g]? = some (.obj cs)) (a : AV) : m.setRow g j a = { m with G := m.G.set g (.obj (cs.set j a)) } := by
  simp [Mem.setRow, h]

/-- A turn of the row in cell j of everybody's object g. -/
theorem MemOk.setRow {c c' : Cx} {m : Mem} {g j : Nat} {cs : List AV} {a a' : AV} (h : MemOk c m) (hg : m.G[g]? = some (.obj cs)) (hj : cs[j]? = some a) (x : Ext c c') (wf : WF c') (hep : c'.ep = c.ep)
    (hbl : c'.bl = c.bl) (hbg : c'.bg = c.bg) (s : ∀ who, who ≠ .grow g j → Same c c' who) (hc : gclean a' = true) (he : ∀ bo v, c.bg g = some bo → c.w.cell? ⟨bo, j, none⟩ = some v → CL c g j a v → CL c' g j a' v) : MemOk c' (m.setRow g j a') := by
  rw [mem_setRow hg]
  have hlt := (List.getElem?_eq_some_iff.1 hg).1
  refine h.of x wf (by rw [hep]; exact h.ep) (fun k e1 hk => .inl ⟨hk, s _ (by simp)⟩) (fun k hk => by rw [hbl]; exact h.ln k hk) (fun g1 e1 hg1 => ?_) (fun g1 hg1 => ?_)
  · simp only at hg1
    rw [set_get] at hg1
    split at hg1
    · rename_i h1
      obtain ⟨rfl, _⟩ := h1
      injection hg1 with hg1
      subst hg1
      right
      obtain ⟨b, cur, ty, k1, k2, k3, k4, k5, k6⟩ := h.g _ _ hg
      obtain ⟨s1, s2, s3⟩ := s (.gobj g) (by simp) b k3
      refine ⟨b, cur, ty, x.bg _ _ k1, s1.trans k2, s2, s3.trans k4, by simpa using k5, fun j1 a1 hj1 => ?_⟩
      rw [set_get] at hj1
      split at hj1
      · rename_i h2
        obtain ⟨rfl, _⟩ := h2
        injection hj1 with hj1
        subst hj1
        obtain ⟨q1, v, q2, q3⟩ := k6 _ _ hj
        exact ⟨hc, v, q2, he _ v k1 (by rw [cell_of k2]; exact q2) q3⟩
      · rename_i h2
        obtain ⟨q1, v, q2, q3⟩ := k6 _ _ hj1
        refine ⟨q1, v, q2, q3.frame x (s _ ?_)⟩
        have := (List.getElem?_eq_some_iff.1 hj).1
        intro e2
        injection e2 with _ e2
        exact h2 ⟨e2.symm, this⟩
    · rename_i h1
      refine .inl ⟨hg1, s _ (by simp), fun j1 => s _ ?_⟩
      intro e2
      injection e2 with e2
      exact h1 ⟨e2.symm, hlt⟩
  · simp only [List.length_set] at hg1
    rw [hbg]; exact h.gn g1 hg1

/-- what 'rowAt' finds -/
theorem rowAt_some {m : Mem} {g j e : Nat} {md : Mode} {sz : Nat} {xs : Row} (h : m.rowAt g j e = some (md, sz, xs)) :
    e = m.ep ∧ ∃ cs, m.G[g]? = some (.obj cs) ∧ cs[j]? = some (.rowc md sz xs) := by
  unfold Mem.rowAt at h
  split at h
  · rename_i he
    refine ⟨he, ?_⟩
    split at h
    · rename_i cs hg
      refine ⟨cs, hg, ?_⟩
      split at h
      · rename_i hj
        simp only [Option.some.injEq, Prod.mk.injEq] at h
        obtain ⟨rfl, rfl, rfl⟩ := h
        exact hj
      · cases h
    · cases h
  · cases h

/-- the row behind a handle to everybody's row -/
theorem gh_row {c : Cx} {m : Mem} {f : Bool} {g j e sz off len : Nat} {v : Value} {md : Mode} {xs : Row} (h : MemOk c m) (hv : VL c (.gh f g j e sz off len) v) (hr : m.rowAt g j e = some (md, sz, xs)) :
    ∃ cs b cap, m.G[g]? = some (.obj cs) ∧ cs[j]? = some (.rowc md sz xs) ∧ RowOk c (.grow g j) b cap sz xs md ∧ off + len ≤ xs.length ∧ SliceAt c.w f b sz off len v ∧
      (∀ bo v', c.bg g = some bo → c.w.cell? ⟨bo, j, none⟩ = some v' → v' = .slice (some ⟨b, 0, none⟩) xs.length cap) := by
  obtain ⟨he, cs, hg, hj⟩ := rowAt_some hr
  cases hv with
  | gh _ _ _ he' h' =>
    obtain ⟨bo, b, l0, c0, h1, h2, h3, h4⟩ := h' (by rw [h.ep]; exact he)
    obtain ⟨b2, cur, ty, k1, k2, k3, k4, k5, k6⟩ := h.g _ _ hg
    obtain ⟨q1, v2, q2, q3⟩ := k6 _ _ hj
    obtain ⟨b3, cap, q4, q5⟩ := q3
    have : b2 = bo := by rw [h1] at k1; injection k1 with k1; exact k1.symm
    subst this
    rw [cell_of k2, q2] at h2
    injection h2 with h2
    rw [q4] at h2
    injection h2 with h2 h2l h2c
    injection h2 with h2
    injection h2 with h2
    subst h2
    refine ⟨cs, _, cap, hg, hj, q5, by omega, h4, fun bo' v' z1 z2 => ?_⟩
    rw [h1] at z1
    injection z1 with z1
    subst z1
    rw [cell_of k2, q2] at z2
    injection z2 with z2
    rw [← z2, q4]

theorem sh_row {c : Cx} {m : Mem} {f : Bool} {i sz off len : Nat} {v : Value} {md : Mode} {xs : Row} (h : MemOk c m) (hv : VL c (.sh f i sz off len) v) (hr : m.get (.loc i) = some (.row md sz xs)) :
    m.L[i]? = some (some (.row md sz xs)) ∧ ∃ b cap, c.bl i = some b ∧ c.rl i = xs.length ∧ RowE c i b cap sz xs md ∧ off + len ≤ xs.length ∧ SliceAt c.w f b sz off len v := by
  have hi : m.L[i]? = some (some (.row md sz xs)) := by
    simp only [Mem.get] at hr
    split at hr
    · rename_i o ho
      rw [ho, hr]
    · cases hr
  refine ⟨hi, ?_⟩
  cases hv with
  | sh hb hl hs =>
    obtain ⟨b, cap, h1, h2, h3⟩ := h.l _ _ hi
    have : some b = some _ := h1.symm.trans hb
    injection this with this
    subst this
    exact ⟨b, cap, h1, h2, h3, by omega, hs⟩

/-- **Told as data.** -/
theorem snap_ok {c : Cx} {m m' : Mem} {a : AV} {d : D} {v : Value} (hs : snap m a = some (d, m')) (h : MemOk c m) (hv : VL c a v) :
    ∃ c', Ghost c c' ∧ MemOk c' m' ∧ RD c'.w c'.lv d v ∧ (notGh a = true → (∀ g, Same c c' (.gobj g)) ∧ (∀ g j, Same c c' (.grow g j)) ∧ m'.G = m.G) := by
  unfold snap at hs
  split at hs
  · injection hs with hs
    obtain ⟨rfl, rfl⟩ := Prod.mk.inj hs
    cases hv with
    | dat hd => exact ⟨c, .refl _, h, hd, fun _ => ⟨fun _ => .refl _ _, fun _ _ => .refl _ _, rfl⟩⟩
  · rename_i f i sz off len
    split at hs
    · rename_i md sz' xs hr
      split at hs
      · rename_i hsz
        subst hsz
        injection hs with hs
        obtain ⟨rfl, rfl⟩ := Prod.mk.inj hs
        obtain ⟨hi, b, cap, h1, h2, h3, h4, h5⟩ := sh_row h hv hr
        cases md with
        | ro => exact ⟨c, .refl _, h, h5.sub h4 h3.1, fun _ => ⟨fun _ => .refl _ _, fun _ _ => .refl _ _, rfl⟩⟩
        | own => exact ⟨c, .refl _, h, h5.sub h4 h3.rd, fun _ => ⟨fun _ => .refl _ _, fun _ _ => .refl _ _, rfl⟩⟩
        | excl =>
          obtain ⟨k1, k2⟩ := h3.froze
          have ho := h3.own
          have t := c.freeze_turn b (xs.length * sz') (by rw [h3.lv]; exact Nat.zero_le _) (by rw [ho]; simp)
          refine ⟨_, t.ghost, ?_, h5.sub h4 k2, fun _ => ⟨fun g => t.same (by rw [ho]; simp), fun g j => t.same (by rw [ho]; simp), rfl⟩⟩
          exact h.setL hi t.ext (t.wf h.wf (MemOk.lt_own h.wf ho)) rfl rfl rfl (fun who hw => t.same (by rw [ho]; simpa using fun e => hw e.symm)) ⟨b, cap, h1, h2, k1⟩
      · cases hs
    · cases hs
  · rename_i f g j e sz off len
    split at hs
    · rename_i md sz' xs hr
      split at hs
      · rename_i hsz
        subst hsz
        injection hs with hs
        obtain ⟨rfl, rfl⟩ := Prod.mk.inj hs
        obtain ⟨cs, b, cap, hg, hj, h3, h4, h5, h6⟩ := gh_row h hv hr
        cases md with
        | ro => exact absurd rfl h3.md
        | own => exact ⟨c, .refl _, h, h5.sub h4 h3.rd, fun _ => ⟨fun _ => .refl _ _, fun _ _ => .refl _ _, rfl⟩⟩
        | excl =>
          obtain ⟨k1, k2⟩ := h3.froze
          have ho := h3.own
          have t := c.freeze_turn b (xs.length * sz') (by rw [h3.lv]; exact Nat.zero_le _) (by rw [ho]; simp)
          refine ⟨_, t.ghost, ?_, h5.sub h4 k2, fun e => by simp [notGh] at e⟩
          refine h.setRow hg hj t.ext (t.wf h.wf (MemOk.lt_own h.wf ho)) rfl rfl rfl (fun who hw => t.same (by rw [ho]; simpa using fun e => hw e.symm)) rfl ?_
          intro bo v2 z1 z2 _
          exact ⟨b, cap, h6 bo v2 z1 z2, k1⟩
      · cases hs
    · cases hs
  · cases hs

end Go.Eng
end

/- What is kept, handed on, given away. -/
section
namespace Go.Eng
open Go Go.RowKit
variable [Inhabited Pkg]
set_option linter.unusedSectionVars false

def All2 {α β : Type} (R : α → β → Prop) : List α → List β → Prop
  | [], [] => True
  | a :: r, b :: s => R a b ∧ All2 R r s
  | _, _ => False

theorem All2.length {α β : Type} {R : α → β → Prop} : ∀ {as : List α} {bs : List β}, All2 R as bs → as.length = bs.length
  | [], [], _ => rfl
  | a :: r, b :: s, h => by simp [All2.length h.2]
  | [], _ :: _, h => h.elim
  | _ :: _, [], h => h.elim

theorem All2.get {α β : Type} {R : α → β → Prop} : ∀ {as : List α} {bs : List β}, All2 R as bs → ∀ (j : Nat) (a : α), as[j]? = some a → ∃ b, bs[j]? = some b ∧ R a b
  | [], [], _, j, a, h => by simp at h
  | x :: r, b :: s, h, 0, a, ha => by simp at ha; subst ha; exact ⟨b, rfl, h.1⟩
  | x :: r, b :: s, h, j + 1, a, ha => by simpa using All2.get h.2 j a (by simpa using ha)
  | [], _ :: _, h, _, _, _ => h.elim
  | _ :: _, [], h, _, _, _ => h.elim

theorem All2.of {α β : Type} {R : α → β → Prop} : ∀ {as : List α} {bs : List β}, as.length = bs.length → (∀ (j : Nat) (a : α), as[j]? = some a → ∀ b, bs[j]? = some b → R a b) → All2 R as bs
  | [], [], _, _ => trivial
  | x :: r, b :: s, h, k => ⟨k 0 x rfl b rfl, All2.of (by simpa using h) fun j a ha b hb => k (j + 1) a (by simpa using ha) b (by simpa using hb)⟩
  | [], _ :: _, h, _ => by simp at h
  | _ :: _, [], h, _ => by simp at h

theorem All2.mono {α β : Type} {R S : α → β → Prop} (hm : ∀ a b, R a b → S a b) : ∀ {as : List α} {bs : List β}, All2 R as bs → All2 S as bs
  | [], [], _ => trivial
  | _ :: _, _ :: _, h => ⟨hm _ _ h.1, All2.mono hm h.2⟩
  | [], _ :: _, h => h.elim
  | _ :: _, [], h => h.elim

theorem All2.append {α β : Type} {R : α → β → Prop} : ∀ {as : List α} {bs : List β} {cs : List α} {ds : List β}, All2 R as bs → All2 R cs ds → All2 R (as ++ cs) (bs ++ ds)
  | [], [], _, _, _, h => h
  | _ :: _, _ :: _, _, _, h, k => ⟨h.1, All2.append h.2 k⟩
  | [], _ :: _, _, _, h, _ => h.elim
  | _ :: _, [], _, _, h, _ => h.elim

theorem All2.take {α β : Type} {R : α → β → Prop} : ∀ {as : List α} {bs : List β} (n : Nat), All2 R as bs → All2 R (as.take n) (bs.take n)
  | [], [], n, _ => by simp [All2]
  | _ :: _, _ :: _, 0, _ => trivial
  | _ :: _, _ :: _, n + 1, h => ⟨h.1, All2.take n h.2⟩
  | [], _ :: _, _, h => h.elim
  | _ :: _, [], _, h => h.elim

theorem All2.drop {α β : Type} {R : α → β → Prop} : ∀ {as : List α} {bs : List β} (n : Nat), All2 R as bs → All2 R (as.drop n) (bs.drop n)
  | [], [], n, _ => by simp [All2]
  | _ :: _, _ :: _, 0, h => h
  | _ :: _, _ :: _, n + 1, h => All2.drop n h.2
  | [], _ :: _, _, h => h.elim
  | _ :: _, [], _, h => h.elim

theorem All2.map {α β γ : Type} {R : α → γ → Prop} {S : β → γ → Prop} (f : α → β) (hm : ∀ a b, R a b → S (f a) b) : ∀ {as : List α} {bs : List γ}, All2 R as bs → All2 S (as.map f) bs
  | [], [], _ => trivial
  | _ :: _, _ :: _, h => ⟨hm _ _ h.1, All2.map f hm h.2⟩
  | [], _ :: _, h => h.elim
  | _ :: _, [], h => h.elim

theorem VL.all2 {c : Cx} {cs : List AV} {vs : Array Value} (hl : cs.length = vs.size) (h : ∀ (j : Nat) (a : AV), cs[j]? = some a → ∀ v, vs[j]? = some v → VL c a v) : All2 (VL c) cs vs.toList :=
  All2.of (by simpa using hl) fun j a ha v hv => h j a ha v (by simpa using hv)

theorem VL.all2' {c : Cx} {cs : List AV} {vs : Array Value} (h : All2 (VL c) cs vs.toList) : cs.length = vs.size ∧ ∀ (j : Nat) (a : AV), cs[j]? = some a → ∀ v, vs[j]? = some v → VL c a v :=
  ⟨by simpa using h.length, fun j a ha v hv => by
    obtain ⟨b, hb, hr⟩ := h.get j a ha
    have : vs.toList[j]? = some v := by simpa using hv
    rw [this] at hb; injection hb with hb; subst hb; exact hr⟩

theorem VL.aggL {c : Cx} {cs : List AV} {l : List Value} (h : All2 (VL c) cs l) : VL c (.agg cs) (.agg l.toArray) := by
  obtain ⟨h1, h2⟩ := VL.all2' (vs := l.toArray) (by simpa using h)
  exact .agg h1 h2

theorem VL.tupL {c : Cx} {cs : List AV} {l : List Value} (h : All2 (VL c) cs l) : VL c (.tup cs) (.tuple l.toArray) := by
  obtain ⟨h1, h2⟩ := VL.all2' (vs := l.toArray) (by simpa using h)
  exact .tup h1 h2


/-- a leaf is one cell -/
theorem VL.leaf {c : Cx} {a : AV} {v : Value} (h : VL c a v) (hl : a.leaf = true) : v.cells = #[v] ∧ v.oneCell' = true := by
  cases h with
  | dat hd => exact ⟨hd.cells, hd.oneCell⟩
  | sh _ _ hs => obtain ⟨ad, cap, ty, n, rfl, _⟩ := hs; exact ⟨rfl, rfl⟩
  | _ => first
    | exact ⟨rfl, rfl⟩
    | simp [AV.leaf] at hl

def valsOf (x : AV) (v : Value) : List Value :=
  match x with
  | .agg _ => v.cells.toList
  | _ => [v]

theorem VL.vals {c : Cx} {x : AV} {v : Value} (h : VL c x v) : All2 (VL c) x.cells (valsOf x v) := by
  cases x <;> first
    | exact ⟨h, trivial⟩
    | (cases h with | agg hl h => exact VL.all2 hl h)

theorem Ext.all2 {c c' : Cx} (x : Ext c c') {as : List AV} {vs : List Value} (h : All2 (VL c) as vs) : All2 (VL c') as vs := h.mono fun _ _ r => r.ext x

theorem all2_one {c : Cx} : ∀ {as : List AV} {vs : List Value}, All2 (VL c) as vs → as.all AV.leaf = true → ∀ v ∈ vs, v.cells = #[v] ∧ v.oneCell' = true
  | [], [], _, _ => by simp
  | a :: r, v :: s, h, hl => by
    simp only [List.all_cons, Bool.and_eq_true] at hl
    intro u hu
    rcases List.mem_cons.1 hu with rfl | hu
    · exact h.1.leaf hl.1
    · exact all2_one h.2 hl.2 u hu
  | [], _ :: _, h, _ => h.elim
  | _ :: _, [], h, _ => h.elim

/-- a step of ghosts, and what it makes of the evaluator's memory -/
structure GStep (c : Cx) (m m' : Mem) (c' : Cx) : Prop where
  g : Ghost c c'
  m : MemOk c' m'

theorem mapS_ok {α β : Type} {f : Mem → α → Option (β × Mem)} {P : Cx → α → Value → Prop} {R : Cx → β → Value → Prop}
    (hf : ∀ c m a b m' v, f m a = some (b, m') → MemOk c m → P c a v → ∃ c', Ghost c c' ∧ MemOk c' m' ∧ R c' b v)
    (hP : ∀ c c' a v, Ext c c' → P c a v → P c' a v) (hR : ∀ c c' b v, Ext c c' → R c b v → R c' b v) :
    ∀ (as : List α) (vs : List Value) (bs : List β) (c : Cx) (m m' : Mem), mapS f m as = some (bs, m') → MemOk c m → All2 (P c) as vs →
      ∃ c', Ghost c c' ∧ MemOk c' m' ∧ All2 (R c') bs vs
  | [], [], bs, c, m, m', h, hm, _ => by
    simp only [mapS, Option.some.injEq, Prod.mk.injEq] at h
    obtain ⟨rfl, rfl⟩ := h
    exact ⟨c, .refl _, hm, trivial⟩
  | a :: r, v :: s, bs, c, m, m', h, hm, hp => by
    simp only [mapS] at h
    split at h
    · rename_i b m1 h1
      split at h
      · rename_i bs1 m2 h2
        simp only [Option.some.injEq, Prod.mk.injEq] at h
        obtain ⟨rfl, rfl⟩ := h
        obtain ⟨c1, g1, k1, r1⟩ := hf c m a b m1 v h1 hm hp.1
        obtain ⟨c2, g2, k2, r2⟩ := mapS_ok hf hP hR r s bs1 c1 m1 m2 h2 k1 (hp.2.mono fun a v h => hP _ _ a v g1.ext h)
        exact ⟨c2, g1.trans g2, k2, hR _ _ _ _ g2.ext r1, r2⟩
      · cases h
    · cases h
  | [], _ :: _, _, _, _, _, _, _, h => h.elim
  | _ :: _, [], _, _, _, _, _, _, h => h.elim

theorem keep_ok {c : Cx} {m m' : Mem} {a b : AV} {v : Value} (hs : keep m a = some (b, m')) (h : MemOk c m) (hv : VL c a v) :
    ∃ c', Ghost c c' ∧ MemOk c' m' ∧ VL c' b v := by
  unfold keep at hs
  split at hs
  · split at hs
    · rename_i d m1 h1
      simp only [Option.some.injEq, Prod.mk.injEq] at hs
      obtain ⟨rfl, rfl⟩ := hs
      obtain ⟨c', g, k, r, _⟩ := snap_ok h1 h hv
      exact ⟨c', g, k, .dat r⟩
    · cases hs
  · simp only [Option.some.injEq, Prod.mk.injEq] at hs
    obtain ⟨rfl, rfl⟩ := hs
    exact ⟨c, .refl _, h, hv⟩

theorem res_glob {m : Mem} {r : Ref} {g : Nat} {c : Cx} {off : Nat} {v : Value} (h : MemOk c m) (hr : m.res r = .glob g) (hv : VL c (.ptr r off) v) : VL c (.ptr (.glob g) off) v := by
  cases r with
  | glob g' => simp only [Mem.res] at hr; injection hr with hr; subst hr; exact hv
  | loc i =>
    simp only [Mem.res] at hr
    split at hr
    · rename_i g' hi
      injection hr with hr
      subst hr
      obtain ⟨b, h1, h2⟩ := h.l _ _ hi
      cases hv with
      | ptrl hb =>
        have : some b = some _ := h1.symm.trans hb
        injection this with this
        subst this
        exact .ptrg h2
    · cases hr

theorem pass1_ok {c : Cx} {m m' : Mem} {a b : AV} {v : Value} (hs : pass1 m a = some (b, m')) (h : MemOk c m) (hv : VL c a v) :
    ∃ c', Ghost c c' ∧ MemOk c' m' ∧ (VL c' b v ∧ pclean b = true) ∧ (notGh a = true → (∀ g, Same c c' (.gobj g)) ∧ (∀ g j, Same c c' (.grow g j)) ∧ m'.G = m.G) := by
  unfold pass1 at hs
  split at hs
  case h_7 | h_8 =>
    split at hs
    · rename_i d m1 h1
      simp only [Option.some.injEq, Prod.mk.injEq] at hs
      obtain ⟨rfl, rfl⟩ := hs
      obtain ⟨c', g, k, r, z⟩ := snap_ok h1 h hv
      exact ⟨c', g, k, ⟨.dat r, rfl⟩, z⟩
    · cases hs
  case h_9 =>
    split at hs
    · rename_i g hg
      simp only [Option.some.injEq, Prod.mk.injEq] at hs
      obtain ⟨rfl, rfl⟩ := hs
      exact ⟨c, .refl _, h, ⟨res_glob h hg hv, rfl⟩, fun _ => ⟨fun _ => .refl _ _, fun _ _ => .refl _ _, rfl⟩⟩
    · cases hs
  case h_10 => cases hs
  all_goals
    simp only [Option.some.injEq, Prod.mk.injEq] at hs
    obtain ⟨rfl, rfl⟩ := hs
    exact ⟨c, .refl _, h, ⟨hv, rfl⟩, fun _ => ⟨fun _ => .refl _ _, fun _ _ => .refl _ _, rfl⟩⟩

theorem mapS_pass1 {c : Cx} {m m' : Mem} {as bs : List AV} {vs : List Value} (hs : mapS pass1 m as = some (bs, m')) (h : MemOk c m) (hv : All2 (VL c) as vs) :
    ∃ c', Ghost c c' ∧ MemOk c' m' ∧ All2 (fun a v => VL c' a v ∧ pclean a = true) bs vs :=
  mapS_ok (P := fun c a v => VL c a v) (R := fun c a v => VL c a v ∧ pclean a = true) (fun c m a b m' v h1 h2 h3 => by obtain ⟨c', g, k, r, _⟩ := pass1_ok h1 h2 h3; exact ⟨c', g, k, r⟩) (fun _ _ _ _ x h => h.ext x) (fun _ _ _ _ x h => ⟨h.1.ext x, h.2⟩) as vs bs c m m' hs h hv

end Go.Eng
end

/- What is given away: rows go into cells of everybody's objects; objects become everybody's. -/
section
namespace Go.Eng
open Go Go.RowKit
variable [Inhabited Pkg]
set_option linter.unusedSectionVars false

structure Giv (c : Cx) (m : Mem) (c' : Cx) (m' : Mem) : Prop where
  gh : Ghost c c'
  ok : MemOk c' m'
  sg : ∀ g, Same c c' (.gobj g)
  sr : ∀ g j, Same c c' (.grow g j)
  G : ∀ (k : Nat) (e : Ent), m.G[k]? = some e → m'.G[k]? = some e

theorem Giv.trans {a b c : Cx} {m n o : Mem} (h : Giv a m b n) (k : Giv b n c o) : Giv a m c o :=
  ⟨h.gh.trans k.gh, k.ok, fun g => (h.sg g).trans (k.sg g), fun g j => (h.sr g j).trans (k.sr g j), fun i e hi => k.G i e (h.G i e hi)⟩

theorem pclean_gclean {a : AV} (h : pclean a = true) : gclean a = true := by
  cases a with
  | ptr r off => cases r <;> simp_all [pclean, gclean]
  | _ => simp_all [pclean, gclean]

theorem CL.of_vl {c : Cx} {g j : Nat} {a : AV} {v : Value} (h : VL c a v) (hc : pclean a = true) : CL c g j a v := by
  cases a <;> first
    | exact h
    | simp [pclean] at hc

theorem lpass_ok {c : Cx} {m m' : Mem} {a b : AV} {v : Value} {g j : Nat} (hs : lpass m a = some (b, m')) (h : MemOk c m) (hv : VL c a v) :
    ∃ c', Giv c m c' m' ∧ gclean b = true ∧ CL c' g j b v := by
  unfold lpass at hs
  split at hs
  · cases hs
  · rename_i hn
    obtain ⟨c', gg, k, r, z⟩ := pass1_ok hs h hv
    have hng : notGh a = true := by
      cases a <;> first
        | rfl
        | exact absurd rfl (hn _ _ _ _ _ _ _)
    obtain ⟨z1, z2, z3⟩ := z hng
    exact ⟨c', ⟨gg, k, z1, z2, fun i e hi => by rw [z3]; exact hi⟩, pclean_gclean r.2, .of_vl r.1 r.2⟩

/-- block b comes to another -/
def Cx.toWho (c : Cx) (b : Nat) (who : Who) : Cx := { c with own := fun x => if x = b then some who else c.own x }

theorem Cx.toWho_turn (c : Cx) (b : Nat) (who : Who) (ho : c.own b ≠ none) : Turn c (c.toWho b who) b :=
  ⟨rfl, fun _ _ => rfl, Nat.le_refl _, fun x hx => by simp [Cx.toWho, hx], ho, by simp [Cx.toWho], rfl, rfl, fun _ _ h => h, rfl⟩

theorem RowOk.toWho {c : Cx} {who who' : Who} {b cap sz : Nat} {xs : Row} {m : Mode} (h : RowOk c who b cap sz xs m) : RowOk (c.toWho b who') who' b cap sz xs m := by
  obtain ⟨⟨cur, ty, fz, h1, h2, h3, h4, h4'⟩, h5, h6, h7, h8, h9, h10⟩ := h
  exact ⟨⟨cur, ty, fz, h1, h2, h3, h4.ext (c.toWho_turn b who' (by rw [h8]; simp)).ext, h4'⟩, h5, h6, h7, by simp [Cx.toWho], h9, h10⟩

theorem RowOk.cap_le {c : Cx} {who : Who} {b cap cap' sz : Nat} {xs : Row} {m : Mode} (h : RowOk c who b cap sz xs m) (h1 : xs.length ≤ cap') (h2 : cap' ≤ maxLen)
    (h3 : ∀ ty n, c.w.shape? b = some (ty, n) → cap' * sz ≤ n) : RowOk c who b cap' sz xs m := by
  obtain ⟨⟨cur, ty, fz, k1, k2, k3, k4, k4'⟩, h5, h6, h7, h8, h9, h10⟩ := h
  exact ⟨⟨cur, ty, fz, k1, k2, h3 _ _ (shape_of k1), k4, k4'⟩, h1, h2, h7, h8, h9, h10⟩

theorem giveSh_ok {c : Cx} {m m' : Mem} {f : Bool} {i sz off len : Nat} {b : AV} {v : Value} {g j : Nat} (hs : giveSh m f i sz off len = some (b, m')) (h : MemOk c m) (hv : VL c (.sh f i sz off len) v) :
    ∃ c', Giv c m c' m' ∧ gclean b = true ∧ CL c' g j b v := by
  unfold giveSh at hs
  split at hs
  · rename_i md s xs hr
    split at hs
    · rename_i hcond
      obtain ⟨rfl, rfl, rfl, hmd, rfl⟩ := hcond
      simp only [Option.some.injEq, Prod.mk.injEq] at hs
      obtain ⟨rfl, rfl⟩ := hs
      obtain ⟨hi, b, cap, h1, h2, h3, h4, h5⟩ := sh_row h hv hr
      have h3' : RowOk c (.lent i) b cap s xs md := by
        cases md with
        | ro => exact absurd rfl hmd
        | own => exact h3
        | excl => exact h3
      have ho := h3'.own
      have t := c.toWho_turn b (.grow g j) (by rw [ho]; simp)
      obtain ⟨ad, cap', ty, n, rfl, q1, q2, q3, q4, q5, q6⟩ := h5
      have hrow : RowOk c (.lent i) b cap' s xs md := h3'.cap_le q2 q3 (fun ty' n' hn => by
        rw [q1] at hn
        simp only [Option.some.injEq, Prod.mk.injEq] at hn
        rw [← hn.2, ← Nat.zero_add cap']; exact q4)
      refine ⟨_, ⟨t.ghost, ?_, fun g' => t.same (by rw [ho]; simp), fun g' j' => t.same (by rw [ho]; simp), fun k e hk => hk⟩, rfl, b, cap', ?_, hrow.toWho⟩
      · exact h.setL hi t.ext (t.wf h.wf (MemOk.lt_own h.wf ho)) rfl rfl rfl (fun who hw => t.same (by rw [ho]; simpa using fun e => hw e.symm)) trivial
      · rcases q6 with rfl | ⟨_, _, q6, _⟩
        · simp
        · exact absurd rfl q6
    · exact lpass_ok hs h hv
  · cases hs

/-- what 'give' keeps to -/
def GivOk (f : Mem → Nat → Nat → AV → Option (AV × Mem)) : Prop :=
  ∀ (c : Cx) (m : Mem) (g j : Nat) (a b : AV) (m' : Mem) (v : Value), f m g j a = some (b, m') → MemOk c m → VL c a v → ∃ c', Giv c m c' m' ∧ gclean b = true ∧ CL c' g j b v

theorem giveL_ok {f : Mem → Nat → Nat → AV → Option (AV × Mem)} (hf : GivOk f) : ∀ (as : List AV) (vs : List Value) (bs : List AV) (c : Cx) (m m' : Mem) (g j : Nat),
    giveL f m g j as = some (bs, m') → MemOk c m → All2 (VL c) as vs →
      ∃ c', Giv c m c' m' ∧ bs.length = vs.length ∧ ∀ (k : Nat) (b : AV), bs[k]? = some b → gclean b = true ∧ ∃ v, vs[k]? = some v ∧ CL c' g (j + k) b v
  | [], [], bs, c, m, m', g, j, h, hm, _ => by
    simp only [giveL, Option.some.injEq, Prod.mk.injEq] at h
    obtain ⟨rfl, rfl⟩ := h
    exact ⟨c, ⟨.refl _, hm, fun _ => .refl _ _, fun _ _ => .refl _ _, fun _ _ h => h⟩, rfl, fun k b hb => by simp at hb⟩
  | a :: r, v :: s, bs, c, m, m', g, j, h, hm, hp => by
    simp only [giveL] at h
    split at h
    · rename_i b m1 h1
      split at h
      · rename_i bs1 m2 h2
        simp only [Option.some.injEq, Prod.mk.injEq] at h
        obtain ⟨rfl, rfl⟩ := h
        obtain ⟨c1, g1, k1, r1⟩ := hf c m g j a b m1 v h1 hm hp.1
        obtain ⟨c2, g2, k2, r2⟩ := giveL_ok hf r s bs1 c1 m1 m2 g (j + 1) h2 g1.ok (g1.gh.ext.all2 hp.2)
        refine ⟨c2, g1.trans g2, by simp [k2], fun k b' hb' => ?_⟩
        cases k with
        | zero =>
          simp only [List.getElem?_cons_zero, Option.some.injEq] at hb'
          subst hb'
          exact ⟨k1, v, rfl, r1.frame g2.gh.ext (g2.sr g j)⟩
        | succ k =>
          obtain ⟨q1, v', q2, q3⟩ := r2 k b' (by simpa using hb')
          refine ⟨q1, v', by simpa using q2, ?_⟩
          have e : j + 1 + k = j + (k + 1) := by omega
          rw [← e]; exact q3
      · cases h
    · cases h
  | [], _ :: _, _, _, _, _, _, _, _, _, h => h.elim
  | _ :: _, [], _, _, _, _, _, _, _, _, h => h.elim

theorem res_loc {m : Mem} {r : Ref} {i : Nat} (h : m.res r = .loc i) : r = .loc i := by
  cases r with
  | glob g => simp [Mem.res] at h
  | loc k =>
    simp only [Mem.res] at h
    split at h
    · cases h
    · exact h

theorem get_loc {m : Mem} {i : Nat} {e : Ent} (h : m.get (.loc i) = some e) : m.L[i]? = some (some e) := by
  simp only [Mem.get] at h
  split at h
  · rename_i o ho; rw [ho, h]
  · cases h

theorem app_get {α : Type} (l : List α) (a : α) (k : Nat) : (l ++ [a])[k]? = if k = l.length then some a else l[k]? := by
  rw [List.getElem?_append]
  split
  · rename_i h; rw [if_neg (by omega)]
  · rename_i h
    split
    · rename_i h2; subst h2; simp
    · rename_i h2
      rw [List.getElem?_eq_none (by simp; omega), List.getElem?_eq_none (by omega)]

theorem givePtr_ok {f : Mem → Nat → Nat → AV → Option (AV × Mem)} (hf : GivOk f) {c : Cx} {m m' : Mem} {r : Ref} {off : Nat} {b : AV} {v : Value} {g j : Nat} (hs : givePtr f m r off = some (b, m')) (h : MemOk c m) (hv : VL c (.ptr r off) v) :
    ∃ c', Giv c m c' m' ∧ pclean b = true ∧ VL c' b v := by
  unfold givePtr at hs
  split at hs
  · rename_i g' hg
    simp only [Option.some.injEq, Prod.mk.injEq] at hs
    obtain ⟨rfl, rfl⟩ := hs
    exact ⟨c, ⟨.refl _, h, fun _ => .refl _ _, fun _ _ => .refl _ _, fun _ _ h => h⟩, rfl, res_glob h hg hv⟩
  · rename_i i hr
    obtain rfl := res_loc hr
    split at hs
    · rename_i cs hi
      have hi := get_loc hi
      split at hs
      · rename_i ds m1 h1
        simp only [Option.some.injEq, Prod.mk.injEq] at hs
        obtain ⟨rfl, rfl⟩ := hs
        obtain ⟨b0, cur, ty, k1, k2, k3, k4, k5⟩ := h.l _ _ hi
        have hgn := h.gn m.G.length (Nat.le_refl _)
        have hilt := (List.getElem?_eq_some_iff.1 hi).1
        -- the object's block is everybody's
        let c1 : Cx := { c with own := fun x => if x = b0 then some (.gobj m.G.length) else c.own x, bg := fun x => if x = m.G.length then some b0 else c.bg x }
        have hbg1 : ∀ x, x ≠ m.G.length → c1.bg x = c.bg x := fun x hx => by simp [c1, hx]
        have t : Turn c c1 b0 := ⟨rfl, fun _ _ => rfl, Nat.le_refl _, fun x hx => by simp [c1, hx], by rw [k3]; simp, by simp [c1], rfl, rfl,
          fun x y hx => by rw [hbg1 x (fun e => by rw [e, hgn] at hx; cases hx)]; exact hx, rfl⟩
        have hwf : WF c1 := t.wf h.wf (MemOk.lt_own h.wf k3)
        have hbl1 : c1.bl = c.bl := rfl
        have hm1 : MemOk c1 { m with L := m.L.set i (some (.fwd m.G.length)), G := m.G ++ [.gone] } := by
          refine h.of t.ext hwf h.ep (fun k e hk => ?_) (fun k hk => ?_) (fun k e hk => ?_) (fun k hk => ?_)
          · simp only at hk
            rw [set_get] at hk
            split at hk
            · rename_i h2
              simp only [Option.some.injEq] at hk
              subst hk
              right
              obtain ⟨rfl, _⟩ := h2
              exact ⟨b0, k1, by simp [c1]⟩
            · rename_i h2
              exact .inl ⟨hk, t.same (by rw [k3]; simp; intro e; exact h2 ⟨e, hilt⟩)⟩
          · simp only [List.length_set] at hk
            rw [set_get] at hk
            split at hk
            · rename_i h2
              rcases hk with hk | hk
              · cases hk
              · omega
            · exact h.ln k hk
          · simp only at hk
            rw [app_get] at hk
            split at hk
            · rename_i hkl
              simp only [Option.some.injEq] at hk
              subst hk
              subst hkl
              exact .inr ⟨b0, by simp [c1], by simp [c1]⟩
            · exact .inl ⟨hk, t.same (by rw [k3]; simp), fun j => t.same (by rw [k3]; simp)⟩
          · simp only [List.length_append, List.length_cons, List.length_nil] at hk
            rw [hbg1 k (by omega)]
            exact h.gn k (by omega)
        have hcells : All2 (VL c1) cs cur.toList := by
          have := k5.ext t.ext
          refine All2.of (by simpa using this.1) fun j a ha v hv => ?_
          obtain ⟨v', q1, q2⟩ := this.2 j a ha
          rw [Array.getElem?_toList] at hv
          rw [q1] at hv
          injection hv with hv
          rw [← hv]; exact q2
        obtain ⟨c2, g2, q1, q2⟩ := giveL_ok hf cs cur.toList ds c1 _ m1 m.G.length 0 h1 hm1 hcells
        have hG : m1.G[m.G.length]? = some .gone := g2.G _ _ (by simp)
        have hb0 : c1.own b0 = some (.gobj m.G.length) := by simp [c1]
        obtain ⟨s1, s2, s3⟩ := g2.sg m.G.length b0 hb0
        have hbg2 : c2.bg m.G.length = some b0 := g2.gh.ext.bg _ _ (by simp [c1])
        refine ⟨c2, ⟨t.ghost.trans g2.gh, ?_, fun g' => (t.same (by rw [k3]; simp)).trans (g2.sg g'), fun g' j' => (t.same (by rw [k3]; simp)).trans (g2.sr g' j'), fun k e hk => ?_⟩, rfl, ?_⟩
        · -- the memory
          refine g2.ok.of (.refl _) g2.ok.wf g2.ok.ep (fun k e hk => .inl ⟨hk, .refl _ _⟩) (fun k hk => g2.ok.ln k hk) (fun k e hk => ?_) (fun k hk => by simp only [List.length_set] at hk; exact g2.ok.gn k hk)
          simp only at hk
          rw [set_get] at hk
          split at hk
          · rename_i h2
            obtain ⟨rfl, _⟩ := h2
            simp only [Option.some.injEq] at hk
            subst hk
            right
            refine ⟨b0, cur, ty, hbg2, s1.trans k2, s2, s3.trans k4, by simpa using q1, fun j a ha => ?_⟩
            obtain ⟨z1, v', z2, z3⟩ := q2 j a ha
            rw [Nat.zero_add] at z3
            exact ⟨z1, v', by simpa using z2, z3⟩
          · exact .inl ⟨hk, .refl _ _, fun _ => .refl _ _⟩
        · have hk' := (List.getElem?_eq_some_iff.1 hk).1
          rw [set_get, if_neg (fun e2 => by omega)]
          exact g2.G k e (by rw [app_get, if_neg (by omega)]; exact hk)
        · cases hv with
          | ptrl hb =>
            have : some b0 = some _ := k1.symm.trans hb
            injection this with this
            subst this
            exact .ptrg hbg2
      · cases hs
    · cases hs

theorem give_ok : ∀ n, GivOk (give n)
  | 0 => by
    intro c m g j a b m' v hs h hv
    unfold give at hs
    split at hs
    · exact giveSh_ok hs h hv
    · exact lpass_ok hs h hv
  | n + 1 => by
    intro c m g j a b m' v hs h hv
    unfold give at hs
    split at hs
    · exact giveSh_ok hs h hv
    · obtain ⟨c', q1, q2, q3⟩ := givePtr_ok (g := g) (j := j) (give_ok n) hs h hv
      exact ⟨c', q1, pclean_gclean q2, .of_vl q3 q2⟩
    · exact lpass_ok hs h hv

theorem passC_ok {c : Cx} {m m' : Mem} {a b : AV} {v : Value} (hs : passC m a = some (b, m')) (h : MemOk c m) (hv : VL c a v) :
    ∃ c', Ghost c c' ∧ MemOk c' m' ∧ (VL c' b v ∧ pclean b = true) := by
  unfold passC at hs
  split at hs
  · obtain ⟨c', q1, q2, q3⟩ := givePtr_ok (g := 0) (j := 0) (give_ok 2) (by simpa [give] using hs) h hv
    exact ⟨c', q1.gh, q1.ok, q3, q2⟩
  · obtain ⟨c', g, k, r, _⟩ := pass1_ok hs h hv
    exact ⟨c', g, k, r⟩

theorem mapS_passC {c : Cx} {m m' : Mem} {as bs : List AV} {vs : List Value} (hs : mapS passC m as = some (bs, m')) (h : MemOk c m) (hv : All2 (VL c) as vs) :
    ∃ c', Ghost c c' ∧ MemOk c' m' ∧ All2 (fun a v => VL c' a v ∧ pclean a = true) bs vs :=
  mapS_ok (P := fun c a v => VL c a v) (R := fun c a v => VL c a v ∧ pclean a = true) (fun c m a b m' v h1 h2 h3 => passC_ok h1 h2 h3) (fun _ _ _ _ x h => h.ext x) (fun _ _ _ _ x h => ⟨h.1.ext x, h.2⟩) as vs bs c m m' hs h hv

theorem pass_ok {c : Cx} {m m' : Mem} {a b : AV} {v : Value} (hs : pass m a = some (b, m')) (h : MemOk c m) (hv : VL c a v) :
    ∃ c', Ghost c c' ∧ MemOk c' m' ∧ (VL c' b v ∧ pclean1 b = true) := by
  unfold pass at hs
  split at hs
  · split at hs
    · rename_i cs ds m1 h1
      simp only [Option.some.injEq, Prod.mk.injEq] at hs
      obtain ⟨rfl, rfl⟩ := hs
      cases hv with
      | agg hl hh =>
        obtain ⟨c', g, k, r⟩ := mapS_passC h1 h (VL.all2 hl hh)
        refine ⟨c', g, k, ?_, ?_⟩
        · have := VL.aggL (r.mono fun a v h => h.1)
          simpa using this
        · simp only [pclean1, List.all_eq_true]
          intro x hx
          obtain ⟨j, hj⟩ := List.getElem?_of_mem hx
          obtain ⟨_, _, z⟩ := r.get j x hj
          exact z.2
    · cases hs
  · split at hs
    · rename_i cs ds m1 h1
      simp only [Option.some.injEq, Prod.mk.injEq] at hs
      obtain ⟨rfl, rfl⟩ := hs
      cases hv with
      | fn hl hh =>
        obtain ⟨c', g, k, r⟩ := mapS_passC h1 h (VL.all2 hl hh)
        refine ⟨c', g, k, ?_, ?_⟩
        · obtain ⟨z1, z2⟩ := VL.all2' (r.mono fun a v h => h.1)
          exact .fn z1 z2
        · simp only [pclean1, List.all_eq_true]
          intro x hx
          obtain ⟨j, hj⟩ := List.getElem?_of_mem hx
          obtain ⟨_, _, z⟩ := r.get j x hj
          exact z.2
    · cases hs
  · rename_i r off
    obtain ⟨c', q1, q2, q3⟩ := givePtr_ok (g := 0) (j := 0) (give_ok 2) (by simpa [give] using hs) h hv
    exact ⟨c', q1.gh, q1.ok, q3, by cases b <;> simp_all [pclean, pclean1]⟩
  · obtain ⟨c', g, k, r, _⟩ := pass1_ok hs h hv
    exact ⟨c', g, k, r.1, by cases b <;> simp_all [pclean, pclean1]⟩

theorem mapS_pass {c : Cx} {m m' : Mem} {as bs : List AV} {vs : List Value} (hs : mapS pass m as = some (bs, m')) (h : MemOk c m) (hv : All2 (VL c) as vs) :
    ∃ c', Ghost c c' ∧ MemOk c' m' ∧ All2 (fun a v => VL c' a v ∧ pclean1 a = true) bs vs :=
  mapS_ok (P := fun c a v => VL c a v) (R := fun c a v => VL c a v ∧ pclean1 a = true) (fun c m a b m' v h1 h2 h3 => pass_ok h1 h2 h3) (fun _ _ _ _ x h => h.ext x) (fun _ _ _ _ x h => ⟨h.1.ext x, h.2⟩) as vs bs c m m' hs h hv

end Go.Eng
end

/- What the machine's operations give, those that neither read nor turn memory. -/
section
namespace Go.Eng
open Go Go.RowKit
variable [Inhabited Pkg]
set_option linter.unusedSectionVars false

/-! ### types -/

def kindOk : TK → TypeDesc → Bool
  | .bool, .bool => true
  | .int k, .int k' => k == k'
  | .str, .string => true
  | .ptr e, .pointer e' => e == e'
  | .slice e, .slice e' => e == e'
  | .arr n e, .array n' e' => n == n' && e == e'
  | .struct fs, .struct gs => fs == gs.toList.map fun f => (f.offset, f.type)
  | .func, .func _ _ _ => true
  | .iface, .interface _ => true
  | _, _ => false

def zeroOk : AV → Value → Bool
  | .dat (.bool b), .bool b' => b == b'
  | .dat (.int k n), .int k' n' => k == k' && n == n'
  | .dat (.str s), .string s' => s.data == s'.data
  | .dat (.list .nil 0 []), .slice none 0 0 => true
  | .nilp, .pointer none => true
  | .nilfn, .nilFunc => true
  | .nili, .nilIface => true
  | _, _ => false

def zerosOk : List AV → List Value → Bool
  | [], [] => true
  | a :: r, v :: s => zeroOk a v && zerosOk r s
  | _, _ => false

def tyOk (P : Program) (t : TypeId) (ti : TI) : Bool :=
  match P.info? t with
  | some i => match P.underlying t with
    | some d => kindOk ti.k d && i.size == ti.size && i.bytes == ti.bytes && (match i.zero with
      | some z => zerosOk ti.zero z.cells.toList && z.cells.size == ti.size
      | none => false) && (match d with
      | .struct fs => fs.toList.all fun f => (P.info? f.type).isSome
      | _ => true) && (!ti.cmp || (!P.stoodInHeld t && !P.eqGuardType P.depth t && (match d with
      | .struct fs => fs.toList.all fun f => f.name != "_"
      | _ => true)))
    | none => false
  | none => false

def TabOk (P : Program) (T : Tab) : Prop := ∀ t ti, T t = some ti → tyOk P t ti = true

structure TyFacts (P : Program) (t : TypeId) (ti : TI) (i : TypeInfo) (d : TypeDesc) (z : Value) : Prop where
  info : P.info? t = some i
  under : P.underlying t = some d
  kind : kindOk ti.k d = true
  size : i.size = ti.size
  bytes : i.bytes = ti.bytes
  zero : i.zero = some z
  zeros : zerosOk ti.zero z.cells.toList = true
  zsize : z.cells.size = ti.size
  fields : ∀ fs, d = .struct fs → ∀ f ∈ fs.toList, ∃ j, P.info? f.type = some j
  cmp : ti.cmp = true → P.stoodInHeld t = false ∧ P.eqGuardType P.depth t = false ∧ ∀ fs, d = .struct fs → ∀ f ∈ fs.toList, (f.name == "_") = false

theorem TabOk.facts {P : Program} {T : Tab} (h : TabOk P T) {t : TypeId} {ti : TI} (ht : T t = some ti) : ∃ i d z, TyFacts P t ti i d z := by
  have := h t ti ht
  unfold tyOk at this
  split at this
  · rename_i i hi
    split at this
    · rename_i d hd
      simp only [Bool.and_eq_true, beq_iff_eq] at this
      obtain ⟨⟨⟨⟨⟨h1, h2⟩, h3⟩, h4⟩, h6⟩, h5⟩ := this
      split at h4
      · rename_i z hz
        simp only [Bool.and_eq_true, beq_iff_eq] at h4
        refine ⟨i, d, z, hi, hd, h1, h2, h3, hz, h4.1, h4.2, fun fs hfs f hf => ?_, fun hc => ?_⟩
        · subst hfs
          have := List.all_eq_true.1 h6 f hf
          exact Option.isSome_iff_exists.1 this
        simp only [hc, Bool.not_true, Bool.false_or, Bool.and_eq_true, Bool.not_eq_true'] at h5
        refine ⟨h5.1.1, h5.1.2, fun fs hfs f hf => ?_⟩
        subst hfs
        have := List.all_eq_true.1 h5.2 f hf
        simpa using this
      · cases h4
    · cases this
  · cases this

theorem zeroOk_vl {c : Cx} {a : AV} {v : Value} (h : zeroOk a v = true) : VL c a v ∧ a.leaf = true := by
  unfold zeroOk at h
  split at h
  · simp only [beq_iff_eq] at h; subst h; exact ⟨.dat (.bool _), rfl⟩
  · simp only [Bool.and_eq_true, beq_iff_eq] at h; obtain ⟨rfl, rfl⟩ := h; exact ⟨.dat (.int _ _), rfl⟩
  · rename_i s s'
    simp only [beq_iff_eq] at h
    have : s = s' := by cases s; cases s'; simp_all
    subst this
    exact ⟨.dat (.str _), rfl⟩
  · exact ⟨.dat (.nil _), rfl⟩
  · exact ⟨.nilp, rfl⟩
  · exact ⟨.nilfn, rfl⟩
  · exact ⟨.nili, rfl⟩
  · cases h

theorem zerosOk_all2 {c : Cx} : ∀ {as : List AV} {vs : List Value}, zerosOk as vs = true → All2 (VL c) as vs ∧ as.all AV.leaf = true
  | [], [], _ => ⟨trivial, rfl⟩
  | a :: r, v :: s, h => by
    simp only [zerosOk, Bool.and_eq_true] at h
    obtain ⟨h1, h2⟩ := zeroOk_vl (c := c) h.1
    obtain ⟨h3, h4⟩ := zerosOk_all2 (c := c) h.2
    exact ⟨⟨h1, h3⟩, by simp [h2, h4]⟩
  | [], _ :: _, h => by simp [zerosOk] at h
  | _ :: _, [], h => by simp [zerosOk] at h

section
variable {P : Program} {T : Tab} {t : TypeId} {ti : TI} {i : TypeInfo} {d : TypeDesc} {z : Value} {w : World}

theorem TyFacts.sizeOf (f : TyFacts P t ti i d z) : (sizeOf t).run P w = .ok ti.size w := by
  simp [Go.sizeOf, typeInfo, f.info, f.size]

theorem TyFacts.und (f : TyFacts P t ti i d z) : (underlying t).run P w = .ok d w := run_underlying f.under w

theorem TyFacts.typeInfo (f : TyFacts P t ti i d z) : (typeInfo t).run P w = .ok i w := by simp [Go.typeInfo, f.info]

theorem TyFacts.zeroValue (f : TyFacts P t ti i d z) : (zeroValue t).run P w = .ok z w := by simp [Go.zeroValue, Go.typeInfo, f.info, f.zero]

theorem TyFacts.isAgg (f : TyFacts P t ti i d z) : (isAgg t).run P w = .ok ti.k.isAgg w := by
  have hk := f.kind
  simp only [Go.isAgg, Sem.run_bind, f.und, Result.andThen_ok]
  cases hd : d <;> cases htk : ti.k <;> simp_all [kindOk, TK.isAgg]

end

theorem kindT_some {T : Tab} {t : TypeId} {k : TK} (h : kindT T t = some k) : ∃ ti, T t = some ti ∧ ti.k = k := by
  unfold kindT at h
  split at h
  · rename_i ti ht; injection h with h; exact ⟨ti, ht, h⟩
  · cases h

theorem sizeT_some {T : Tab} {t : TypeId} {n : Nat} (h : sizeT T t = some n) : ∃ ti, T t = some ti ∧ ti.size = n := by
  unfold sizeT at h
  split at h
  · rename_i ti ht; injection h with h; exact ⟨ti, ht, h⟩
  · cases h

/-- what an operation comes to -/
def RunsTo (P : Program) (c : Cx) (s : Sem Value) (res : AV) : Prop := ∃ v, s.run P c.w = .ok v c.w ∧ VL c res v

/-! ### numbers, strings, tests -/

theorem int_ok {P : Program} {c : Cx} {op : BinOp} {k k' : IntKind} {a b : Int} {res : AV} {t : TypeId} (h : intBin op k a k' b = some res) : RunsTo P c (binOp op t (.int k a) (.int k' b)) res := by
  unfold intBin at h
  split at h
  · split at h
    · cases h
    · rename_i hb
      injection h with h; subst h
      exact ⟨_, by simp [binOp, Op.shift, hb], .dat (.int _ _)⟩
  · split at h
    · cases h
    · rename_i hb
      injection h with h; subst h
      exact ⟨_, by simp [binOp, Op.shift, hb], .dat (.int _ _)⟩
  · rename_i h1 h2
    split at h
    · cases h
    · rename_i hk
      have hk : k = k' := by simpa using hk
      subst hk
      split at h
      case h_4 =>
        split at h
        · cases h
        · rename_i hb
          injection h with h; subst h
          exact ⟨_, by simp [binOp, Op.intDiv, hb], .dat (.int _ _)⟩
      case h_5 =>
        split at h
        · cases h
        · rename_i hb
          injection h with h; subst h
          exact ⟨_, by simp [binOp, Op.intDiv, hb], .dat (.int _ _)⟩
      case h_16 => cases h
      all_goals
        injection h with h; subst h
        first
          | (refine ⟨_, ?_, .dat (.int _ _)⟩; simp only [binOp, ne_eq, not_true_eq_false, if_false, Op.intArith]; rfl)
          | (refine ⟨_, ?_, .dat (.int _ _)⟩; simp only [binOp, ne_eq, not_true_eq_false, if_false, Op.intBits]; rfl)
          | (refine ⟨_, ?_, .dat (.bool _)⟩; simp only [binOp, ne_eq, not_true_eq_false, if_false, Op.intCmp]; rfl)

theorem str_ok {P : Program} {c : Cx} {op : BinOp} {a b : ByteArray} {res : AV} {t : TypeId} (h : strBin op a b = some res) : RunsTo P c (binOp op t (.string a) (.string b)) res := by
  unfold strBin at h
  split at h
  · split at h
    · cases h
    · rename_i hb
      injection h with h; subst h
      exact ⟨_, by simp only [binOp, Op.stringOp, Sem.run_ite, Sem.run_pure, run_unsupported]; rw [if_neg hb], .dat (.str _)⟩
  all_goals first
    | cases h; done
    | (injection h with h; subst h
       refine ⟨_, ?_, .dat (.bool _)⟩
       simp only [binOp, Op.stringOp]; rfl)

end Go.Eng
end
