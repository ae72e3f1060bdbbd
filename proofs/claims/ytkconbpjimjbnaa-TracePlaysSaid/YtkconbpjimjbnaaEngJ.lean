/- Fields, indexes, parts, what is built, what is cut. -/
import Derived.Test.YtkconbpjimjbnaaEngI
namespace Go.Eng
open Go Go.RowKit

theorem add_off (b o n : Nat) : (⟨b, o, none⟩ : Addr).add n = ⟨b, o + n, none⟩ := by
  unfold Addr.add
  split
  · rename_i h; subst h; rfl
  · rfl

theorem fieldOff_some {P : Program} {T : Tab} (hT : TabOk P T) {t : TypeId} {f off : Nat} {ft : TypeId} (h : fieldOff T t f = some (off, ft)) :
    ∃ gs g, P.underlying t = some (.struct gs) ∧ gs[f]? = some g ∧ g.offset = off ∧ g.type = ft := by
  unfold fieldOff at h
  split at h
  · rename_i ti hti
    split at h
    · rename_i fs hfs
      obtain ⟨i, ds, z, f'⟩ := hT.facts hti
      have hk := f'.kind
      rw [hfs] at hk
      have : ∃ gs, ds = .struct gs ∧ fs = gs.toList.map fun g => (g.offset, g.type) := by
        cases ds <;> simp_all [kindOk]
      obtain ⟨gs, rfl, rfl⟩ := this
      rw [List.getElem?_map] at h
      cases hg : gs.toList[f]? with
      | none => rw [hg] at h; cases h
      | some g =>
        rw [hg] at h
        simp only [Option.map_some, Option.some.injEq, Prod.mk.injEq] at h
        exact ⟨gs, g, f'.under, by simpa using hg, h.1, h.2⟩
    · cases h
  · cases h

/-- part of cells, related -/
theorem partOf_ok {P : Program} {T : Tab} {c : Cx} (hT : TabOk P T) {t : TypeId} {ti : TI} {cs : List AV} {vs : Array Value} {off : Nat} {res : AV} {w : World} (ht : T t = some ti) (hl : off + ti.size ≤ cs.length)
    (h : partOf T t cs off = some res) (hv : All2 (VL c) cs vs.toList) : ∃ v, (part t vs off).run P w = .ok v w ∧ VL c res v := by
  obtain ⟨i, ds, z, f⟩ := hT.facts ht
  have hlen := hv.length
  simp only [partOf, ht] at h
  unfold part
  simp only [Sem.run_bind, f.isAgg, Result.andThen_ok]
  cases hk : ti.k.isAgg with
  | true =>
    simp only [hk, if_true, Option.some.injEq] at h
    subst h
    refine ⟨.agg (vs.extract off (off + ti.size)), by simp [f.sizeOf], ?_⟩
    have := VL.aggL ((hv.drop off).take ti.size)
    have e : ((vs.toList.drop off).take ti.size).toArray = vs.extract off (off + ti.size) := by
      apply Array.ext'
      simp [Array.toList_extract, List.extract, List.take_drop]
    rw [e] at this
    exact this
  | false =>
    simp only [hk, Bool.false_eq_true, if_false] at h
    obtain ⟨v, h1, h2⟩ := hv.get off res h
    have : vs[off]? = some v := by simpa using h1
    exact ⟨v, by simp [this], h2⟩

theorem field_ok {P : Program} {T : Tab} {c : Cx} (hT : TabOk P T) {t : TypeId} {f : Nat} {X res : AV} {v : Value} (h : field T t X f = some res) (hx : VL c X v) : RunsTo P c (Instr.field t v f) res := by
  unfold field at h
  split at h
  · split at h
    · rename_i off ft hf
      split at h
      · rename_i ti hti
        split at h
        · rename_i hl
          obtain ⟨gs, g, h1, h2, rfl, rfl⟩ := fieldOff_some hT hf
          cases hx with
          | agg hl1 hh =>
            obtain ⟨r, h3, h4⟩ := partOf_ok (w := c.w) hT hti hl h (VL.all2 hl1 hh)
            exact ⟨r, by simp [Instr.field, run_underlying h1, h2, asAgg, h3], h4⟩
        · cases h
      · cases h
    · cases h
  · cases h

theorem fieldAddr_ok {P : Program} {T : Tab} {c : Cx} (hT : TabOk P T) {t : TypeId} {f : Nat} {X res : AV} {v : Value} (h : fieldAddr T t X f = some res) (hx : VL c X v) : RunsTo P c (Instr.fieldAt t v f) res := by
  unfold fieldAddr at h
  split at h
  · rename_i off ft hf
    split at h
    · rename_i ti hti
      split at h
      · cases h
      · rename_i hz
        obtain ⟨gs, g, h1, h2, rfl, rfl⟩ := fieldOff_some hT hf
        obtain ⟨i, ds, z, f'⟩ := hT.facts hti
        have key : ∀ b o, (Instr.fieldAt t (.pointer (some ⟨b, o, none⟩)) f).run P c.w = .ok (.pointer (some ⟨b, o + g.offset, none⟩)) c.w := by
          intro b o
          simp [Instr.fieldAt, run_underlying h1, h2, Instr.sureAddr, fieldPlace, f'.sizeOf, hz, add_off]
        split at h
        · injection h with h; subst h
          cases hx with
          | ptrl hb => exact ⟨_, key _ _, .ptrl hb⟩
          | ptrg hb => exact ⟨_, key _ _, .ptrg hb⟩
        · injection h with h; subst h
          cases hx with
          | ept hb => exact ⟨_, by rw [key, Nat.add_assoc], .ept hb⟩
        · injection h with h; subst h
          cases hx with
          | gept he hh =>
            refine ⟨_, key _ _, .gept he fun e => ?_⟩
            obtain ⟨bo, l0, c0, q1, q2, q3⟩ := hh e
            exact ⟨bo, l0, c0, q1, q2, by omega⟩
        · injection h with h; subst h
          cases hx with
          | dpt hr => exact ⟨_, by rw [key, Nat.add_assoc, Nat.add_assoc], .dpt hr⟩
        · cases h
    · cases h
  · cases h

theorem kindT_under {P : Program} {T : Tab} (hT : TabOk P T) {t : TypeId} {k : TK} (h : kindT T t = some k) : ∃ d, P.underlying t = some d ∧ kindOk k d = true := by
  obtain ⟨ti, i, ds, z, hti, hk, f⟩ := kind_agg hT h
  have := f.kind
  rw [hk] at this
  exact ⟨ds, f.under, this⟩

theorem kindT_slice {P : Program} {T : Tab} (hT : TabOk P T) {t e : TypeId} (h : kindT T t = some (.slice e)) : P.underlying t = some (.slice e) := by
  obtain ⟨d, h1, h2⟩ := kindT_under hT h
  cases d <;> simp_all [kindOk]

theorem kindT_arr {P : Program} {T : Tab} (hT : TabOk P T) {t e : TypeId} {n : Nat} (h : kindT T t = some (.arr n e)) : P.underlying t = some (.array n e) := by
  obtain ⟨d, h1, h2⟩ := kindT_under hT h
  cases d <;> simp_all [kindOk]

theorem kindT_str {P : Program} {T : Tab} (hT : TabOk P T) {t : TypeId} (h : kindT T t = some .str) : P.underlying t = some .string := by
  obtain ⟨d, h1, h2⟩ := kindT_under hT h
  cases d <;> simp_all [kindOk]

theorem kindT_int {P : Program} {T : Tab} (hT : TabOk P T) {t : TypeId} {k : IntKind} (h : kindT T t = some (.int k)) : P.underlying t = some (.int k) := by
  obtain ⟨d, h1, h2⟩ := kindT_under hT h
  cases d <;> simp_all [kindOk]

theorem sizeT_run {P : Program} {T : Tab} (hT : TabOk P T) {t : TypeId} {n : Nat} (h : sizeT T t = some n) (w : World) : (sizeOf t).run P w = .ok n w := by
  obtain ⟨ti, hti, hs⟩ := sizeT_some h
  obtain ⟨i, ds, z, f⟩ := hT.facts hti
  rw [← hs]; exact f.sizeOf

theorem index_ok {P : Program} {T : Tab} {c : Cx} (hT : TabOk P T) {t : TypeId} {X I res : AV} {v u : Value} (h : index T t X I = some res) (hx : VL c X v) (hi : VL c I u) : RunsTo P c (Instr.index t v u) res := by
  unfold index at h
  split at h
  · rename_i k n
    cases hi with | dat hi => cases hi with | int =>
    split at h
    · cases hx with | dat hx => cases hx with | str =>
      split at h
      · rename_i hk
        have hu := kindT_str hT hk
        split at h
        · rename_i h0
          split at h
          · rename_i b hb
            injection h with h; subst h
            exact ⟨_, by simp [Instr.index, asIntOf, run_underlying hu, h0, hb], .dat (.int _ _)⟩
          · cases h
        · cases h
      · cases h
    · split at h
      · rename_i len e hk
        have hu := kindT_arr hT hk
        split at h
        · rename_i ti hti
          obtain ⟨i, ds, z, f⟩ := hT.facts hti
          split at h
          · rename_i h0
            split at h
            · rename_i hl
              cases hx with
              | agg hl1 hh =>
                obtain ⟨r, h3, h4⟩ := partOf_ok (w := c.w) hT hti hl h (VL.all2 hl1 hh)
                exact ⟨r, by simp [Instr.index, asIntOf, run_underlying hu, h0, f.sizeOf, h3], h4⟩
            · cases h
          · cases h
        · cases h
      · cases h
    · cases h
  · cases h

theorem indexAddr_ok {P : Program} {T : Tab} {c : Cx} (hT : TabOk P T) {t : TypeId} {X I res : AV} {v u : Value} (h : indexAddr T t X I = some res) (hx : VL c X v) (hi : VL c I u) : RunsTo P c (Instr.indexAt t v u) res := by
  unfold indexAddr at h
  split at h
  · rename_i k n
    cases hi with | dat hi => cases hi with | int =>
    split at h
    · rename_i len e hk
      have hu := kindT_arr hT hk
      split at h
      · rename_i sz hsz
        have key : ∀ b o, 0 ≤ n → n < len → (Instr.indexAt t (.pointer (some ⟨b, o, none⟩)) (.int k n)).run P c.w = .ok (.pointer (some ⟨b, o + n.toNat * sz, none⟩)) c.w := by
          intro b o h1 h2
          simp [Instr.indexAt, asIntOf, run_underlying hu, Instr.sureAddr, sizeT_run hT hsz, h1, h2, add_off]
        split at h
        · split at h
          · rename_i h0
            injection h with h; subst h
            cases hx with
            | ptrl hb => exact ⟨_, key _ _ h0.1 h0.2, .ptrl hb⟩
            | ptrg hb => exact ⟨_, key _ _ h0.1 h0.2, .ptrg hb⟩
          · cases h
        · split at h
          · rename_i h0
            injection h with h; subst h
            cases hx with
            | ept hb => exact ⟨_, by rw [key _ _ h0.1 h0.2, Nat.add_assoc], .ept hb⟩
          · cases h
        · split at h
          · rename_i h0
            injection h with h; subst h
            cases hx with
            | gept he hh =>
              refine ⟨_, key _ _ h0.1 h0.2, .gept he fun e => ?_⟩
              obtain ⟨bo, l0, c0, q1, q2, q3⟩ := hh e
              exact ⟨bo, l0, c0, q1, q2, by omega⟩
          · cases h
        · split at h
          · rename_i h0
            injection h with h; subst h
            cases hx with
            | dpt hr => exact ⟨_, by rw [key _ _ h0.1 h0.2, Nat.add_assoc, Nat.add_assoc], .dpt hr⟩
          · cases h
        · cases h
      · cases h
    · rename_i e hk
      have hu := kindT_slice hT hk
      split at h
      · rename_i sz hsz
        have key : ∀ b o len cap, 0 ≤ n → n < (len : Nat) → (Instr.indexAt t (.slice (some ⟨b, o, none⟩) len cap) (.int k n)).run P c.w = .ok (.pointer (some ⟨b, o + n.toNat * sz, none⟩)) c.w := by
          intro b o len cap h1 h2
          simp [Instr.indexAt, asIntOf, run_underlying hu, sizeT_run hT hsz, h1, h2, add_off]
        split at h
        · split at h
          · rename_i hsz'
            subst hsz'
            split at h
            · rename_i h0
              injection h with h; subst h
              cases hx with
              | sh hb hl hsl =>
                obtain ⟨ad, cap, ty, m, rfl, q1, q2, q3, q4, q5, q6⟩ := hsl
                rcases q6 with rfl | ⟨rfl, _⟩
                · refine ⟨_, key _ _ _ _ h0.1 h0.2, ?_⟩
                  have e1 : ∀ (a b s : Nat), a * s + b * s = (a + b) * s + 0 := fun a b s => by rw [Nat.add_mul, Nat.add_zero]
                  rw [e1]
                  exact .ept hb
                · exfalso; omega
            · cases h
          · cases h
        · split at h
          · rename_i hsz'
            subst hsz'
            split at h
            · rename_i h0
              injection h with h; subst h
              cases hx with
              | gh _ _ _ he hh =>
                refine ⟨_, key _ _ _ _ h0.1 h0.2, .gept he fun e => ?_⟩
                obtain ⟨bo, b, l0, c0, z1, z2, z3, hsl⟩ := hh e
                obtain ⟨ad, cap, ty, m, q0, q1, q2, q3, q4, q5, q6⟩ := hsl
                injection q0 with q0 _ q0'
                injection q0 with q0
                subst q0
                rcases q6 with q6 | ⟨rfl, _⟩
                · injection q6 with q6 q7
                  subst q6
                  subst q7
                  exact ⟨bo, l0, c0, z1, z2, by rw [Nat.add_mul, Nat.add_zero]⟩
                · exfalso; omega
            · cases h
          · cases h
        · split at h
          · rename_i hsz'
            subst hsz'
            split at h
            · rename_i h0
              injection h with h; subst h
              cases hx with
              | dat hd =>
                have hd0 := hd
                cases hd with
                | nil => exfalso; simp at h0; omega
                | void sz0 ad hk => exfalso; simp at h0; omega
                | list vs2 a1 a2 a3 a4 a5 a6 a7 a8 =>
                  exact ⟨_, key _ _ _ _ h0.1 h0.2, .dpt hd0.any⟩
            · cases h
          · cases h
        · cases h
      · cases h
    · cases h
  · cases h

theorem extract_ok {P : Program} {c : Cx} {X res : AV} {v : Value} {i : Nat} (h : extract X i = some res) (hx : VL c X v) : RunsTo P c (Instr.extract v i) res := by
  unfold extract at h
  split at h
  · cases hx with
    | tup hl hh =>
      rename_i vs us
      have hi := (List.getElem?_eq_some_iff.1 h).1
      have : us[i]? = some us[i] := by simp
      exact ⟨us[i], by simp [Instr.extract, this], hh i res h _ this⟩
  · cases h

theorem pick_ok {P : Program} {c : Cx} {X Y Z res : AV} {v u x : Value} (h : pick X Y Z = some res) (hx : VL c X v) (hy : VL c Y u) (hz : VL c Z x) :
    ∃ b, v = .bool b ∧ VL c res (if b then u else x) := by
  unfold pick at h
  split at h
  · injection h with h; subst h
    cases hx with | dat hx => cases hx with | bool => exact ⟨true, rfl, hy⟩
  · injection h with h; subst h
    cases hx with | dat hx => cases hx with | bool => exact ⟨false, rfl, hz⟩
  · cases h

end Go.Eng
