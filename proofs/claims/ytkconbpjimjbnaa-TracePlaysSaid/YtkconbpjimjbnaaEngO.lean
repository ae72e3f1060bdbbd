/- New blocks: what is laid, boxed, built as a row, converted. -/
import Derived.Test.YtkconbpjimjbnaaEngN
namespace Go.Eng
open Go Go.RowKit

/-- what an operation that turns memory comes to -/
def Does (P : Program) (c : Cx) (s : Sem Value) (m' : Mem) (res : AV) : Prop := ∃ c' v, s.run P c.w = .ok v c'.w ∧ Ext c c' ∧ MemOk c' m' ∧ VL c' res v

theorem RunsTo.does {P : Program} {c : Cx} {s : Sem Value} {m : Mem} {res : AV} (h : RunsTo P c s res) (hm : MemOk c m) : Does P c s m res := by
  obtain ⟨v, h1, h2⟩ := h
  exact ⟨c, v, h1, .refl _, hm, h2⟩

/-- a step of ghosts ahead of an operation -/
theorem Does.ghost {P : Program} {c c1 : Cx} {s : Sem Value} {m' : Mem} {res : AV} (g : Ghost c c1) (h : Does P c1 s m' res) : Does P c s m' res := by
  obtain ⟨c', v, h1, h2, h3, h4⟩ := h
  rw [g.w] at h1
  exact ⟨c', v, h1, g.ext.trans h2, h3, h4⟩

/-- The context behind a new block, which entity i owns. -/
def Cx.new (c : Cx) (w' : World) (i n rl : Nat) : Cx :=
  { w := w', lv := fun x => if x = c.w.heap.size then n else c.lv x, own := fun x => if x = c.w.heap.size then some (.lent i) else c.own x,
    bl := fun k => if k = i then some c.w.heap.size else c.bl k, bg := c.bg, rl := fun k => if k = i then rl else c.rl k, ep := c.ep }

structure NewW (w w' : World) (cur : Array Value) (ty : TypeId) (fz : Nat × Nat) : Prop where
  os : w'.os = w.os
  tape : w'.tape = w.tape
  output : w'.output = w.output
  size : w'.heap.size = w.heap.size + 1
  old : ∀ x, x < w.heap.size → w'.heap[x]? = w.heap[x]?
  new : w'.heap[w.heap.size]? = some (.cells cur ty fz)

theorem NewW.alloc (w : World) (cur : Array Value) (ty : TypeId) : NewW w (w.alloc (.cells cur ty)) cur ty (0, 0) :=
  ⟨rfl, rfl, rfl, by simp, fun x hx => heap_alloc_old w _ x hx, heap_alloc_new w _⟩

theorem NewW.drew_alloc (w : World) (cur : Array Value) (ty : TypeId) : NewW w (w.drew.alloc (.cells cur ty)) cur ty (0, 0) :=
  ⟨rfl, rfl, rfl, by simp, fun x hx => heap_alloc_old w.drew _ x hx, heap_alloc_new w.drew _⟩

theorem new_new {c : Cx} {m : Mem} {w' : World} {i n rl : Nat} {cur : Array Value} {ty : TypeId} {fz : Nat × Nat} (hm : MemOk c m) (hi : m.L[i]? = some none) (h : NewW c.w w' cur ty fz) :
    New c (c.new w' i n rl) (.lent i) cur ty fz := by
  have hbl : c.bl i = none := hm.ln i (.inl hi)
  have hne : ∀ k x, c.bl k = some x → k ≠ i := fun k x hk e => by rw [e, hbl] at hk; cases hk
  exact ⟨h.os, h.tape, h.output, h.size, h.old, h.new, fun x hx => by simp [Cx.new, hx], fun x hx => by simp [Cx.new, hx], by simp [Cx.new],
    fun k x hk => by simp only [Cx.new, if_neg (hne k x hk)]; exact hk, fun k x hk => by simp only [Cx.new, if_neg (hne k x hk)], fun k x hk => hk, rfl⟩

/-- **A new object.** -/
theorem new_obj {c : Cx} {m : Mem} {w' : World} {i : Nat} {cur : Array Value} {ty : TypeId} {cs : List AV} (hm : MemOk c m) (hi : m.L[i]? = some none) (h : NewW c.w w' cur ty (0, 0)) (hc : All2 (VL c) cs cur.toList) :
    Ext c (c.new w' i 0 0) ∧ MemOk (c.new w' i 0 0) (m.set (.loc i) (.obj cs)) ∧ VL (c.new w' i 0 0) (.ptr (.loc i) 0) (.pointer (some ⟨c.w.heap.size, 0, none⟩)) := by
  have p := new_new (n := 0) (rl := 0) hm hi h
  have x := p.ext hm.wf
  refine ⟨x, hm.fresh hi x (p.wf hm.wf) rfl (fun k hk => by simp [Cx.new, hk]) rfl (fun who => p.same hm.wf who) ⟨c.w.heap.size, cur, ty, by simp [Cx.new], h.new, by simp [Cx.new], by simp [Cx.new], ?_⟩, .ptrl (by simp [Cx.new])⟩
  have hc' := x.all2 hc
  refine ⟨by simpa using hc'.length, fun j a ha => ?_⟩
  obtain ⟨v, h1, h2⟩ := hc'.get j a ha
  exact ⟨v, by simpa using h1, h2⟩

/-- **A new row.** -/
theorem new_row {c : Cx} {m : Mem} {w' : World} {i sz cap n : Nat} {cur : Array Value} {ty : TypeId} {fz : Nat × Nat} {xs : Row} {f : Bool} {md : Mode} (hm : MemOk c m) (hi : m.L[i]? = some none) (h : NewW c.w w' cur ty fz)
    (hfz : NoFrz cur.size fz) (hsize : cap * sz ≤ cur.size) (hone : ∀ v ∈ cur.toList, v.oneCell' = true) (hc : RowC c sz xs cur) (hlen : xs.length ≤ cap) (hmax : cap ≤ maxLen) (hpos : 0 < sz) (hf : f = true → cap = xs.length)
    (hmd : md ≠ .ro) (hn : n = md.lv (xs.length * sz)) :
    Ext c (c.new w' i n xs.length) ∧ MemOk (c.new w' i n xs.length) (m.set (.loc i) (.row md sz xs)) ∧
      VL (c.new w' i n xs.length) (.sh f i sz 0 xs.length) (.slice (some ⟨c.w.heap.size, 0, none⟩) xs.length cap) := by
  have p := new_new (n := n) (rl := xs.length) hm hi h
  have x := p.ext hm.wf
  have hrow : RowOk (c.new w' i n xs.length) (.lent i) c.w.heap.size cap sz xs md :=
    ⟨⟨cur, ty, fz, h.new, hfz, hsize, hc.ext x, hone⟩, hlen, hmax, hpos, by simp [Cx.new], hmd, by simp [Cx.new, hn]⟩
  refine ⟨x, hm.fresh hi x (p.wf hm.wf) rfl (fun k hk => by simp [Cx.new, hk]) rfl (fun who => p.same hm.wf who) ⟨c.w.heap.size, cap, by simp [Cx.new], by simp [Cx.new], ?_⟩, ?_⟩
  · cases md with
    | ro => exact absurd rfl hmd
    | own => exact hrow
    | excl => exact hrow
  · refine .sh (b := c.w.heap.size) (by simp [Cx.new]) (by simp [Cx.new]) ⟨⟨c.w.heap.size, 0, none⟩, cap, ty, cur.size, rfl, shape_of h.new, hlen, hmax, by rw [Nat.zero_add]; exact hsize, hf, .inl (by simp)⟩

theorem alloc_ok {P : Program} {T : Tab} {c : Cx} {m m' : Mem} (hT : TabOk P T) (hm : MemOk c m) {i : Nat} (hi : m.L[i]? = some none) {t : TypeId} {res : AV} (h : alloc T m i t = some (res, m')) :
    Does P c (Instr.alloc t true (.tuple #[])) m' res := by
  unfold alloc at h
  split at h
  · rename_i ti hti
    simp only [Option.some.injEq, Prod.mk.injEq] at h
    obtain ⟨rfl, rfl⟩ := h
    obtain ⟨j, ds, z, f⟩ := hT.facts hti
    obtain ⟨hz, _⟩ := zerosOk_all2 (c := c) f.zeros
    obtain ⟨q1, q2, q3⟩ := new_obj hm hi (NewW.alloc c.w z.cells t) hz
    exact ⟨_, _, by simp [Instr.alloc, f.zeroValue, newVar, newRow, Cx.new], q1, q2, q3⟩
  · cases h

theorem vals_cells {c : Cx} {x : AV} {v : Value} {xs : List AV} (h : All2 (VL c) xs (valsOf x v)) (hl : xs.all AV.leaf = true) : v.cells.toList = valsOf x v := by
  by_cases hagg : ∃ cs, x = .agg cs
  · obtain ⟨cs, rfl⟩ := hagg
    rfl
  · have hv : valsOf x v = [v] := by cases x <;> first | rfl | exact absurd ⟨_, rfl⟩ hagg
    rw [hv] at h ⊢
    match xs, h with
    | [b], h =>
      have := (h.1.leaf (by simpa using hl)).1
      rw [this]

theorem mapS_keep {c : Cx} {m m' : Mem} {as bs : List AV} {vs : List Value} (hs : mapS keep m as = some (bs, m')) (h : MemOk c m) (hv : All2 (VL c) as vs) :
    ∃ c', Ghost c c' ∧ MemOk c' m' ∧ All2 (VL c') bs vs :=
  mapS_ok (P := fun c a v => VL c a v) (R := fun c a v => VL c a v) (fun c m a b m' v h1 h2 h3 => keep_ok h1 h2 h3) (fun _ _ _ _ x h => h.ext x) (fun _ _ _ _ x h => h.ext x) as vs bs c m m' hs h hv

end Go.Eng
