/- What is appended. -/
import Derived.Test.YtkconbpjimjbnaaEngR
namespace Go.Eng
open Go Go.RowKit

theorem frozen_not {w : World} {g : Nat} {cur : Array Value} {ty : TypeId} {fz : Nat × Nat} (hg : w.heap[g]? = some (.cells cur ty fz)) (hf : NoFrz cur.size fz) {o : Nat} (ho : o < cur.size) : w.frozen? ⟨g, o, none⟩ = false := by
  obtain ⟨lo, hi⟩ := fz
  have := hf o ho
  simp only [World.frozen?, hg, Bool.and_eq_false_iff, decide_eq_false_iff_not]
  simp only at this
  omega

theorem LK.isNil_eq {k : LK} (h : k.isNil = true) : k = .nil := by cases k <;> simp_all [LK.isNil]

/-- stores into a row of which nothing is frozen -/
theorem run_stores (P : Program) (g o : Nat) (ty : TypeId) (fz : Nat × Nat) : ∀ (vs : List Value) (i : Nat) (cur : Array Value) (w : World), w.heap[g]? = some (.cells cur ty fz) → NoFrz cur.size fz → o + i + vs.length ≤ cur.size →
    (∀ v ∈ vs, v.oneCell' = true) → (storeCells ⟨g, o, none⟩ vs i).run P w = .ok () (w.setRow g (splice cur.toList (o + i) vs).toArray)
  | [], i, cur, w, hg, _, _, _ => by
    simp only [storeCells, splice, List.append_nil, List.length_nil, Nat.add_zero, List.take_append_drop, Array.toArray_toList]
    rw [setRow_self w g cur ty fz hg]
    rfl
  | v :: rest, i, cur, w, hg, hfz, hl, h1 => by
    have hi : o + i < cur.size := by simp at hl; omega
    have hcell : w.cell? ⟨g, o + i, none⟩ = some cur[o + i] := by simp [World.cell?, hg, hi]
    have hfro := frozen_not hg hfz hi
    have hst : (Go.store ((⟨g, o, none⟩ : Addr).add i) v).run P w = .ok () (w.setRow g (cur.setIfInBounds (o + i) v)) := by
      rw [add_off, run_store P w _ v _ (h1 v (by simp)), hcell]
      simp [hfro, setCell_eq_setRow w g (o + i) cur ty fz v hg]
    have ih := run_stores P g o ty fz rest (i + 1) (cur.setIfInBounds (o + i) v) (w.setRow g (cur.setIfInBounds (o + i) v)) (setRow_heap w g cur _ ty _ hg) (by simpa using hfz) (by simp at hl ⊢; omega) (fun x hx => h1 x (by simp [hx]))
    simp only [storeCells, Sem.run_bind, hst, Result.andThen_ok, ih, setRow_setRow]
    congr 3
    have e := list_seg_step cur.toList (o + i) v rest (by simp at hl ⊢; omega)
    simpa [splice, Array.toList_setIfInBounds, Nat.add_assoc] using e

/-- the elements that are appended, as the machine reads them -/
structure News (P : Program) (c : Cx) (sz : Nat) (ys : Row) (u : Value) (nv : List Value) : Prop where
  lenOf : ∀ w, (Builtin.lenOf u).run P w = .ok ys.length w
  cells : ∀ w, w.heap = c.w.heap → (Builtin.firstCells sz ys.length u).run P w = .ok nv.toArray w
  len : nv.length = ys.length * sz
  hsz : ∀ y ∈ ys, y.length = sz
  rd : ∀ k y j d, ys[k]? = some y → y[j]? = some d → ∃ v, nv[k * sz + j]? = some v ∧ RD c.w c.lv d v
  one : ∀ v ∈ nv, v.oneCell' = true

theorem news_ok {P : Program} {c : Cx} {m : Mem} (hm : MemOk c m) {sz : Nat} {Y : AV} {u : Value} {ys : Row} (h : newsOf m sz Y = some ys) (hy : VL c Y u) : ∃ nv, News P c sz ys u nv := by
  unfold newsOf at h
  split at h
  · rename_i s
    split at h
    · rename_i hs1
      subst hs1
      injection h with h
      subst h
      cases hy with | dat hy => cases hy with | str =>
      refine ⟨s.data.toList.map fun b => .int .u8 b.toNat, ⟨fun w => ?_, fun w _ => ?_, by simp, fun y hy => ?_, fun k y j d hk hj => ?_, fun v hv => ?_⟩⟩
      · have : (s.data.toList.map byteRow).length = s.size := by simp
        rw [this]
        rfl
      · have : (s.data.toList.map byteRow).length = s.size := by simp
        rw [this]
        have e : s.extract 0 s.size = s := by simp
        simp only [Builtin.firstCells, e, Sem.run_pure]
        congr 1
        apply Array.ext'
        simp
      · obtain ⟨b, _, rfl⟩ := List.mem_map.1 hy; rfl
      · rw [List.getElem?_map] at hk
        cases hb : s.data.toList[k]? with
        | none => rw [hb] at hk; cases hk
        | some b =>
          rw [hb] at hk
          simp only [Option.map_some, Option.some.injEq] at hk
          subst hk
          match j with
          | 0 =>
            simp only [byteRow, List.getElem?_cons_zero, Option.some.injEq] at hj
            subst hj
            refine ⟨.int .u8 b.toNat, ?_, .int _ _⟩
            simp only [Nat.mul_one, Nat.add_zero, List.getElem?_map, hb, Option.map_some]
          | j + 1 => simp [byteRow] at hj
      · obtain ⟨b, _, rfl⟩ := List.mem_map.1 hv; rfl
    · cases h
  · split at h
    · rename_i n s xs hrd
      split at h
      · rename_i hns
        injection h with h
        subst h
        rcases rd_ok hm hrd hy with ⟨_, rfl, rfl⟩ | ⟨a, cap, vs, rfl, hsp, hcap, hc⟩
        · exact ⟨[], ⟨fun w => rfl, fun w _ => rfl, by simp, by simp, by simp, by simp⟩⟩
        · by_cases hx : xs = []
          · subst hx
            refine ⟨[], ⟨fun w => rfl, fun w _ => ?_, by simp, by simp, by simp, by simp⟩⟩
            simp [Builtin.firstCells, loadCells, loadCellsFrom]
          · have hs : s = sz := by
              rcases hns with hn | hn
              · -- a nil list has no elements
                exfalso
                subst hn
                unfold rd at hrd
                split at hrd
                · simp only [Option.some.injEq, Prod.mk.injEq] at hrd
                  obtain ⟨hkn, rfl, rfl⟩ := hrd
                  cases hy with
                  | dat hy =>
                    cases hy with
                    | void _ _ hk => exact hk (LK.isNil_eq hkn)
                    | list _ _ _ _ _ _ _ hk _ => exact hk (LK.isNil_eq hkn)
                · split at hrd
                  · split at hrd
                    · simp at hrd
                    · cases hrd
                  · cases hrd
                · split at hrd
                  · split at hrd
                    · simp at hrd
                    · cases hrd
                  · cases hrd
                · cases hrd
              · exact hn
            subst hs
            refine ⟨vs, ⟨fun w => rfl, fun w hw => ?_, hc.len, hc.hsz, hc.rd, hc.one⟩⟩
            have := run_firstCells_some (P := P) w s xs.length a xs.length cap vs hc.len (fun j v hj => by
              obtain ⟨b, o, sp⟩ := a
              have hsp : sp = none := by
                rcases hsp with h | ⟨h, _⟩
                · exact h
                · exact absurd h hx
              subst hsp
              rw [add_off]
              have := hc.cell j v hj
              simpa [World.cell?, hw] using this)
            exact this
      · cases h
    · cases h

/-- **Append where there is room.** -/
theorem append_room {P : Program} {T : Tab} {c : Cx} (hT : TabOk P T) {t t2 e ty : TypeId} {te : TI} (hu : P.underlying t = some (.slice e)) (hte : T e = some te) (h2 : (isSlT T t2 || isStrT T t2) = true)
    {ys : Row} {u : Value} {nv : List Value} (hn : News P c te.size ys u nv) {b len cap : Nat} {cur : Array Value} {ety : TypeId} {fz : Nat × Nat} (hh : c.w.heap[b]? = some (.cells cur ety fz)) (hf : NoFrz cur.size fz)
    (hroom : len + ys.length ≤ cap) (hsz : cap * te.size ≤ cur.size) :
    (Builtin.append_ #[t, t2] ty #[.slice (some ⟨b, 0, none⟩) len cap, u]).run P c.w = .ok (.slice (some ⟨b, 0, none⟩) (len + ys.length) cap) (c.w.setRow b (splice cur.toList (len * te.size) nv).toArray) := by
  obtain ⟨ie, dse, z, fe⟩ := hT.facts hte
  have hint : (∃ e2, P.underlying t2 = some (.slice e2)) ∨ P.underlying t2 = some .string := by
    simp only [Bool.or_eq_true] at h2
    rcases h2 with h2 | h2
    · obtain ⟨e2, hk⟩ := isSlT_some h2
      exact .inl ⟨_, kindT_slice hT hk⟩
    · exact .inr (kindT_str hT (isStrT_some h2))
  have hst := run_stores P b (len * te.size) ety fz nv 0 cur c.w hh hf (by
    rw [hn.len]
    have : (len + ys.length) * te.size ≤ cap * te.size := Nat.mul_le_mul_right _ hroom
    rw [Nat.add_mul] at this
    omega) hn.one
  simp only [Nat.add_zero] at hst
  have hadd : (⟨b, 0, none⟩ : Addr).add (len * te.size) = ⟨b, len * te.size, none⟩ := by rw [add_off, Nat.zero_add]
  rcases hint with ⟨e2, hd2⟩ | hd2
  all_goals
    simp only [Builtin.append_, List.getElem?_toArray, List.getElem?_cons_zero, List.getElem?_cons_succ, Sem.run_bind, run_underlying hu, run_underlying hd2, fe.sizeOf, Result.andThen_ok, Sem.run_pure, Bool.false_eq_true, if_false, hn.lenOf, if_pos hroom,
      Bool.not_false, if_true, hn.cells c.w rfl, hadd, hst]

/-- **Append where there is none.** -/
theorem append_grow {P : Program} {T : Tab} {c : Cx} (hT : TabOk P T) {t t2 e ty : TypeId} {te : TI} (hu : P.underlying t = some (.slice e)) (hte : T e = some te) (h2 : (isSlT T t2 || isStrT T t2) = true)
    {ys : Row} {u : Value} {nv : List Value} (hn : News P c te.size ys u nv) {a : Option Addr} {len cap : Nat} {olds : List Value} (ho : ∀ w, w.heap = c.w.heap → (Builtin.firstCells te.size len (.slice a len cap)).run P w = .ok olds.toArray w)
    (hgrow : cap < len + ys.length) (hbytes : (len + ys.length) * te.bytes ≤ 140737488355328) (h63 : len + ys.length ≤ 9223372036854775807) :
    ∃ z : Value, (∃ i d, TyFacts P e te i d z) ∧ (Builtin.append_ #[t, t2] ty #[.slice a len cap, u]).run P c.w = .ok (.slice (some ⟨c.w.heap.size, 0, none⟩) (len + ys.length) (grownCap c.w (len + ys.length) cap e))
      (c.w.drew.alloc (.cells (olds.toArray ++ nv.toArray ++ Builtin.zeroCells z.cells (grownCap c.w (len + ys.length) cap e - (len + ys.length))) e)) := by
  obtain ⟨ie, dse, z, fe⟩ := hT.facts hte
  refine ⟨z, ⟨ie, dse, fe⟩, ?_⟩
  have hint : (∃ e2, P.underlying t2 = some (.slice e2)) ∨ P.underlying t2 = some .string := by
    simp only [Bool.or_eq_true] at h2
    rcases h2 with h2 | h2
    · obtain ⟨e2, hk⟩ := isSlT_some h2
      exact .inl ⟨_, kindT_slice hT hk⟩
    · exact .inr (kindT_str hT (isStrT_some h2))
  have hne : ¬ (len + ys.length ≤ cap) := by omega
  have hb : ie.bytes = te.bytes := fe.bytes
  have hfit := growslice_fits (old := cap) (need := len + ys.length) (bytes := te.bytes) (by omega) hbytes
  have c1 : ¬ (((len + ys.length : Nat) : Int) > IntKind.i64.max ∧ ((False) ∨ ie.bytes = 0)) := by
    simp [IntKind.max, IntKind.signed, IntKind.bits]; omega
  have hnv := hn.cells c.w.drew rfl
  have hov := ho c.w.drew rfl
  rcases hint with ⟨e2, hd2⟩ | hd2
  all_goals
    simp only [Builtin.append_, List.getElem?_toArray, List.getElem?_cons_zero, List.getElem?_cons_succ, Sem.run_bind, run_underlying hu, run_underlying hd2, fe.sizeOf, Result.andThen_ok, Sem.run_pure, Bool.false_eq_true, if_false, hn.lenOf, if_neg hne,
      Bool.not_false, if_true, fe.typeInfo, hb]
    rw [if_neg (by simp [IntKind.max, IntKind.signed, IntKind.bits]; omega)]
    simp only [Sem.run_pure, Result.andThen_ok, Sem.run_bind, fe.typeInfo, hb]
    rw [if_neg (by omega)]
    simp only [Sem.run_bind, Sem.run_pure, Result.andThen_ok, run_choose, Question.forced, Bool.false_eq_true, if_false, fe.typeInfo, hb, run_askRoom, World.drew_eq, hov, hnv, fe.zeroValue, newRow, run_newObj, grownCap]
    rfl

/-- what an append leaves -/
structure Apd (c c' : Cx) (who : Who) (fresh sz : Nat) (zs : Row) (md : Mode) (t : Nat) (v : Value) : Prop where
  ext : Ext c c'
  wf : WF c'
  ep : c'.ep = c.ep + t
  bl : ∀ k, k ≠ fresh → c'.bl k = c.bl k
  bg : c'.bg = c.bg
  same : ∀ who', who' ≠ who → Same c c' who'
  row : EOk c' fresh (.row md sz zs)
  val : VL c' (.sh false fresh sz 0 zs.length) v

theorem EOk.of_row {c : Cx} {i b cap sz : Nat} {xs : Row} {md : Mode} (h1 : c.bl i = some b) (h2 : c.rl i = xs.length) (h3 : md ≠ .ro) (h : RowOk c (.lent i) b cap sz xs md) : EOk c i (.row md sz xs) := by
  refine ⟨b, cap, h1, h2, ?_⟩
  cases md with
  | ro => exact absurd rfl h3
  | own => exact h
  | excl => exact h

theorem Mode.lv_mono (m : Mode) {a b : Nat} (h : a ≤ b) : m.lv a ≤ m.lv b := by
  cases m <;> simp [Mode.lv, h]

theorem Mode.lv_le (m : Mode) (a : Nat) : m.lv a ≤ a := by
  cases m <;> simp [Mode.lv]

/-- the cells of what was there and what came behind it -/
theorem RowC.append {c : Cx} {sz : Nat} {xs ys : Row} {cur : Array Value} {l : List Value} {u : Value} {P : Program} {nv : List Value} (hc : RowC c sz xs cur) (hn : News P c sz ys u nv)
    (h1 : ∀ p, p < xs.length * sz → l[p]? = cur[p]?) (h2 : ∀ p, p < ys.length * sz → l[xs.length * sz + p]? = nv[p]?) : RowC c sz (xs ++ ys) l.toArray := by
  refine ⟨fun x hx => ?_, fun k x j d hx hd => ?_⟩
  · rcases List.mem_append.1 hx with hx | hx
    · exact hc.hsz x hx
    · exact hn.hsz x hx
  · rw [List.getElem?_append] at hx
    split at hx
    · obtain ⟨v, q1, q2⟩ := hc.hc k x j d hx hd
      exact ⟨v, by rw [List.getElem?_toArray, h1 _ (idx_lt hc.hsz hx hd)]; exact q1, q2⟩
    · rename_i hk
      obtain ⟨v, q1, q2⟩ := hn.rd _ x j d hx hd
      refine ⟨v, ?_, q2⟩
      rw [← h2 _ (idx_lt hn.hsz hx hd)] at q1
      rw [List.getElem?_toArray, ← q1]
      congr 1
      have : k = xs.length + (k - xs.length) := by omega
      rw [this, Nat.add_mul]
      simp only [Nat.add_sub_cancel_left]
      omega

theorem append_new {P : Program} {T : Tab} {c : Cx} {m : Mem} (hT : TabOk P T) (hm : MemOk c m) {t t2 e ty : TypeId} {te : TI} (hu : P.underlying t = some (.slice e)) (hte : T e = some te) (h2 : (isSlT T t2 || isStrT T t2) = true)
    {ys : Row} {u : Value} {nv : List Value} (hn : News P c te.size ys u nv) {fresh : Nat} (hf : m.L[fresh]? = some none) {a : Option Addr} {cap : Nat} {xs : Row} {olds : List Value} {md : Mode} (hmd : md ≠ .ro)
    (ho : ∀ w, w.heap = c.w.heap → (Builtin.firstCells te.size xs.length (.slice a xs.length cap)).run P w = .ok olds.toArray w) (hlen : olds.length = xs.length * te.size) (hoc : RowC c te.size xs olds.toArray) (ho1 : ∀ v ∈ olds, v.oneCell' = true)
    (hgrow : cap < xs.length + ys.length) (hpos : 0 < te.size) (tk : Nat)
    (hbytes : (xs.length + ys.length) * te.bytes ≤ 140737488355328) (h63 : xs.length + ys.length ≤ 9223372036854775807) :
    ∃ c' v, (Builtin.append_ #[t, t2] ty #[.slice a xs.length cap, u]).run P c.w = .ok v c'.w ∧ ∀ who, Apd c c' who fresh te.size (xs ++ ys) md tk v := by
  obtain ⟨z, ⟨iz, dz, fz'⟩, hrun⟩ := append_grow (ty := ty) hT hu hte h2 hn ho hgrow hbytes h63
  have hge := grownCap_ge c.w (xs.length + ys.length) cap e
  have hgm := grownCap_le_maxLen c.w (xs.length + ys.length) cap e h63
  obtain ⟨ncap, hnc⟩ : ∃ n, n = grownCap c.w (xs.length + ys.length) cap e := ⟨_, rfl⟩
  rw [← hnc] at hge hgm hrun
  obtain ⟨hz, hzl⟩ := zerosOk_all2 (c := c) fz'.zeros
  obtain ⟨row, hrow⟩ : ∃ r : Array Value, r = olds.toArray ++ nv.toArray ++ Builtin.zeroCells z.cells (ncap - (xs.length + ys.length)) := ⟨_, rfl⟩
  rw [← hrow] at hrun
  have hzc : z.cells.size = te.size := fz'.zsize
  have hzcs : (Builtin.zeroCells z.cells (ncap - (xs.length + ys.length))).size = (ncap - (xs.length + ys.length)) * te.size := by
    rw [size_zeroCells, hzc]
  have hrl : row.size = ncap * te.size := by
    rw [hrow]
    simp only [Array.size_append, List.size_toArray, hlen, hn.len, hzcs]
    rw [← Nat.add_mul, ← Nat.add_mul]
    congr 1; omega
  have hrc : RowC c te.size (xs ++ ys) row := by
    have e1 : row = row.toList.toArray := rfl
    rw [e1]
    refine hoc.append hn (fun p hp => ?_) (fun p hp => ?_)
    · rw [hrow]
      simp only [Array.toList_append, List.getElem?_append, List.length_append, hlen]
      rw [if_pos (by omega), if_pos hp, List.getElem?_toArray]
    · rw [hrow]
      simp only [Array.toList_append, List.getElem?_append, List.length_append, hlen]
      rw [hn.len, if_pos (by omega), if_neg (by omega)]
      congr 1; omega
  have hone : ∀ v ∈ row.toList, v.oneCell' = true := by
    intro v hv
    rw [hrow] at hv
    simp only [Array.toList_append, List.mem_append] at hv
    rcases hv with (hv | hv) | hv
    · exact ho1 v hv
    · exact hn.one v hv
    · exact mem_range_map (zeros_one hz hzl) (by rw [hzc]; exact hpos) v hv
  have hnw := NewW.drew_alloc c.w row e
  obtain ⟨x1, x2, x3⟩ := new_row (xs := xs ++ ys) (md := md) (f := false) hm hf hnw (by intro k _; omega) (by rw [hrl]; exact Nat.le_refl _) hone hrc (by simpa using hge) hgm hpos (by simp) hmd rfl
  have dr : Drawn (c.new (c.w.drew.alloc (.cells row e)) fresh (md.lv ((xs ++ ys).length * te.size)) (xs ++ ys).length) { c.new (c.w.drew.alloc (.cells row e)) fresh (md.lv ((xs ++ ys).length * te.size)) (xs ++ ys).length with ep := c.ep + tk } :=
    ⟨rfl, rfl, rfl, rfl, rfl, rfl, rfl, rfl, rfl, Nat.le_add_right _ _⟩
  refine ⟨{ c.new (c.w.drew.alloc (.cells row e)) fresh (md.lv ((xs ++ ys).length * te.size)) (xs ++ ys).length with ep := c.ep + tk }, _, by rw [hrun]; rfl,
    fun who => ⟨x1.trans dr.ext, dr.wf x2.wf, rfl, fun k hk => by simp [Cx.new, hk], rfl, fun who' _ => ?_, ?_, ?_⟩⟩
  · exact ((new_new hm hf hnw).same hm.wf who').trans (dr.same _)
  · have := x2.l fresh (.row md te.size (xs ++ ys)) (by simp only [Mem.set]; rw [set_get, if_pos ⟨rfl, (List.getElem?_eq_some_iff.1 hf).1⟩])
    exact this.frame dr.ext (dr.same _)
  · have := x3.ext dr.ext
    simpa [hnc] using this

theorem append_in {P : Program} {T : Tab} {c : Cx} {m : Mem} (hT : TabOk P T) (hm : MemOk c m) {t t2 e ty : TypeId} {te : TI} (hu : P.underlying t = some (.slice e)) (hte : T e = some te) (h2 : (isSlT T t2 || isStrT T t2) = true)
    {ys : Row} {u : Value} {nv : List Value} (hn : News P c te.size ys u nv) {fresh : Nat} (hf : m.L[fresh]? = some none) {who : Who} (hwho : ∀ g, who ≠ .gobj g) {b cap0 cap : Nat} {xs : Row} {md : Mode}
    (hr : RowOk c who b cap0 te.size xs md) (hcap : xs.length ≤ cap) (hmax : cap ≤ maxLen) (hsize : ∀ ty n, c.w.shape? b = some (ty, n) → cap * te.size ≤ n) (tk : Nat)
    (hbytes : (xs.length + ys.length) * te.bytes ≤ 140737488355328) (h63 : xs.length + ys.length ≤ 9223372036854775807) :
    ∃ c' v, (Builtin.append_ #[t, t2] ty #[.slice (some ⟨b, 0, none⟩) xs.length cap, u]).run P c.w = .ok v c'.w ∧ Apd c c' who fresh te.size (xs ++ ys) md tk v := by
  obtain ⟨⟨cur, ety, fz, q1, q2, q3, q4, q4'⟩, q5, q6, q7, q8, q9, q10⟩ := hr
  have hblt := MemOk.lt_own hm.wf q8
  have hsz := hsize _ _ (shape_of q1)
  have hblf : c.bl fresh = none := hm.ln fresh (.inl hf)
  have hnef : ∀ k x, c.bl k = some x → k ≠ fresh := fun k x hk e => by rw [e, hblf] at hk; cases hk
  have hbg : ∀ g, c.bg g ≠ some b := fun g hg => by
    have := hm.bgown hg
    rw [q8] at this
    injection this with this
    exact hwho g this
  rcases Nat.lt_or_ge cap (xs.length + ys.length) with hgrow | hroom
  · -- a new block
    have hle : xs.length * te.size ≤ cur.size := Nat.le_trans (Nat.mul_le_mul_right _ hcap) hsz
    have hlen : (cur.toList.take (xs.length * te.size)).length = xs.length * te.size := by simp; omega
    obtain ⟨c', v, z1, z2⟩ := append_new (ty := ty) hT hm hu hte h2 hn hf (a := some ⟨b, 0, none⟩) (xs := xs) (cap := cap) (olds := cur.toList.take (xs.length * te.size)) q9 (fun w hw => by
      refine run_firstCells_some (P := P) w te.size xs.length ⟨b, 0, none⟩ xs.length cap _ hlen (fun j v hj => ?_)
      have hjl := (List.getElem?_eq_some_iff.1 hj).1
      rw [hlen] at hjl
      rw [List.getElem?_take, if_pos hjl, Array.getElem?_toList] at hj
      rw [add_off, Nat.zero_add]
      have := cell_of q1 j
      rw [hj] at this
      simpa [World.cell?, hw] using this) hlen ⟨q4.hsz, fun k x j d hx hd => by
        obtain ⟨v, z1, z2⟩ := q4.hc k x j d hx hd
        refine ⟨v, ?_, z2⟩
        rw [List.getElem?_toArray, List.getElem?_take, if_pos (idx_lt q4.hsz hx hd), Array.getElem?_toList]; exact z1⟩ (fun v hv => q4' v (List.mem_of_mem_take hv)) hgrow q7 tk hbytes h63
    exact ⟨c', v, z1, z2 who⟩
  · -- there is room
    have hrun := append_room (ty := ty) hT hu hte h2 hn q1 q2 hroom hsz
    have hlen2 : (xs.length + ys.length) * te.size ≤ cap * te.size := Nat.mul_le_mul_right _ hroom
    rw [Nat.add_mul] at hlen2
    obtain ⟨row, hrow⟩ : ∃ r : Array Value, r = (splice cur.toList (xs.length * te.size) nv).toArray := ⟨_, rfl⟩
    rw [← hrow] at hrun
    have hpos : ∀ p, p < xs.length * te.size → row[p]? = cur[p]? := by
      intro p hp
      rw [hrow]
      simp only [List.getElem?_toArray, splice, List.append_assoc]
      rw [List.getElem?_append, if_pos (by simp; omega), List.getElem?_take, if_pos hp, Array.getElem?_toList]
    have hpos2 : ∀ p, p < ys.length * te.size → row.toList[xs.length * te.size + p]? = nv[p]? := by
      intro p hp
      rw [hrow]
      have e0 : (cur.toList.take (xs.length * te.size)).length = xs.length * te.size := by simp; omega
      simp only [splice, List.append_assoc]
      rw [List.getElem?_append, if_neg (by rw [e0]; omega), e0, List.getElem?_append, if_pos (by rw [hn.len]; omega)]
      congr 1; omega
    have hrs : row.size = cur.size := by
      rw [hrow]
      simp only [splice, List.size_toArray, List.length_append, List.length_take, List.length_drop, Array.length_toList, hn.len]
      omega
    have hlvle : c.lv b ≤ xs.length * te.size := by rw [q10]; exact md.lv_le _
    let c' : Cx :=
      { w := c.w.setRow b row, lv := fun x => if x = b then md.lv ((xs ++ ys).length * te.size) else c.lv x, own := fun x => if x = b then some (.lent fresh) else c.own x,
        bl := fun k => if k = fresh then some b else c.bl k, bg := c.bg, rl := fun k => if k = fresh then (xs ++ ys).length else c.rl k, ep := c.ep + tk }
    have p : Put c c' b cur row ety fz := ⟨q1, rfl, hrs, fun o ho => hpos o (by omega), fun x hx => by simp [c', hx], by
        simp only [c', if_true, q10]
        exact md.lv_mono (Nat.mul_le_mul_right _ (by simp)), fun x hx => by simp [c', hx], by rw [q8]; simp,
      fun k x hk => by simp only [c', if_neg (hnef k x hk)]; exact hk, fun k x hk => by simp only [c', if_neg (hnef k x hk)], rfl, Nat.le_add_right _ _, fun _ g hg => absurd hg (hbg g)⟩
    have hrc : RowC c' te.size (xs ++ ys) row := by
      have := q4.append hn (l := row.toList) (fun p hp => by rw [Array.getElem?_toList]; exact hpos p hp) hpos2
      exact this.ext p.ext
    have hone : ∀ v ∈ row.toList, v.oneCell' = true := by
      intro v hv
      rw [hrow] at hv
      simp only [splice, List.mem_append] at hv
      rcases hv with (hv | hv) | hv
      · exact q4' v (List.mem_of_mem_take hv)
      · exact hn.one v hv
      · exact q4' v (List.mem_of_mem_drop hv)
    have hrok : RowOk c' (.lent fresh) b cap te.size (xs ++ ys) md := ⟨⟨row, ety, fz, p.at, by rw [hrs]; exact q2, by rw [hrs]; exact hsz, hrc, hone⟩, by simpa using hroom, hmax, q7, by simp [c'], q9, by simp [c']⟩
    refine ⟨c', _, hrun, ⟨p.ext, p.wf hm.wf, rfl, fun k hk => by simp [c', hk], rfl, fun who' hw => p.same (by rw [q8]; simpa using fun e => hw e.symm), .of_row (by simp [c']) (by simp [c']) q9 hrok, ?_⟩⟩
    refine .sh (b := b) (by simp [c']) (by simp [c']) ⟨⟨b, 0, none⟩, cap, ety, row.size, by simp, shape_of p.at, by simpa using hroom, hmax, by rw [hrs, Nat.zero_add]; exact hsz, by simp, .inl (by simp)⟩

end Go.Eng
