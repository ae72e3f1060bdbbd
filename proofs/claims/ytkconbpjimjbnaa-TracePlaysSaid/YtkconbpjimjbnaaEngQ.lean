/- Rows that are built and made; conversions. -/
import Derived.Test.YtkconbpjimjbnaaEngP
namespace Go.Eng
open Go Go.RowKit

theorem buildSlice_ok {P : Program} {T : Tab} {c : Cx} {m m' : Mem} (hT : TabOk P T) (hm : MemOk c m) {i : Nat} (hi : m.L[i]? = some none) {t : TypeId} {n : Nat} {ps : List (Nat × AV)} {qs : List (Nat × Value)} {res : AV}
    (h : buildSlice T m i t n ps = some (res, m')) (hp : All2 (fun (p : Nat × AV) (q : Nat × Value) => p.1 = q.1 ∧ VL c p.2 q.2) ps qs) : Does P c (Instr.buildSlice t n qs.toArray) m' res := by
  unfold buildSlice at h
  split at h
  · rename_i ti hti
    obtain ⟨_, ds, _, f⟩ := hT.facts hti
    have hk := f.kind
    split at h
    · rename_i e he
      rw [he] at hk
      have : ds = .slice e := by cases ds <;> simp_all [kindOk]
      subst this
      split at h
      · rename_i te hte
        obtain ⟨ie, dse, z, fe⟩ := hT.facts hte
        obtain ⟨hz, _⟩ := zerosOk_all2 (c := c) fe.zeros
        split at h
        · rename_i hcond
          obtain ⟨hc1, hc2, hc3⟩ := hcond
          split at h
          · rename_i cs hcs
            split at h
            · rename_i dd m1 hsn
              simp only [Option.some.injEq, Prod.mk.injEq] at h
              obtain ⟨rfl, rfl⟩ := h
              have hzs := fe.zsize
              have hz2 := zeroCells_all2 (n := n) hz (by omega)
              rw [hzs] at hz2
              obtain ⟨vs', q1, q2, q3⟩ := fill_ok (place2 := fun i => some (i * te.size, te.size)) (fun _ _ h => h) ps qs _ cs ((Array.range (n * te.size)).map (z.cells[· % te.size]!)) hcs hz2 hp
              obtain ⟨c1, g, hm1, hall⟩ := mapS_snap hsn hm q2
              have hfree := mapS_free (fun _ _ _ _ h => snap_free h) _ _ _ _ hsn
              have hlen : dd.length = n * te.size := by
                have := hall.length
                simp only [Array.length_toList, q3] at this
                rw [this]; simp
              have hvs : vs'.size = n * te.size := by rw [q3]; simp
              refine Does.ghost g ?_
              have hcl := chunks_length te.size n dd
              obtain ⟨r1, r2, r3⟩ := new_row (f := true) (md := .excl) (cap := n) (n := 0) hm1 (hfree.free i hi) (NewW.alloc c1.w vs' e) (by intro k _; omega) (by rw [hvs]; exact Nat.le_refl _) (all2_rd_one hall)
                (rowC_chunks hall hlen) (by rw [hcl]; exact Nat.le_refl _) (by
                  have : n ≤ n * te.size := Nat.le_mul_of_pos_right n hc3
                  unfold maxLen; omega) hc3 (fun _ => by rw [hcl]) (by simp) rfl
              rw [hcl] at r1 r2 r3
              refine ⟨_, _, ?_, r1, r2, r3⟩
              have hns : ¬ (n * te.size > 2 ^ 24) := by omega
              simp only [Instr.buildSlice, Sem.run_bind, f.und, fe.sizeOf, Result.andThen_ok, if_neg hns]
              by_cases h0 : n * te.size = 0
              · have hn0 : n = 0 := by
                  rcases Nat.mul_eq_zero.1 h0 with h | h <;> omega
                subst hn0
                have hr0 : Array.range 0 = #[] := rfl
                have hq1 : Instr.fill (fun i => some (i * te.size, te.size)) #[] qs = some vs' := by simpa [hr0] using q1
                simp [hr0, hq1, newRow, Cx.new]
              · simp only [h0, if_false, Sem.run_bind, fe.zeroValue, Result.andThen_ok, Sem.run_pure, hzs, q1]
                simp [newRow, Cx.new]
            · cases h
          · cases h
        · cases h
      · cases h
    · cases h
  · cases h

theorem replicate_all2 {c : Cx} {zd : List D} {z : Value} {n : Nat} (h : All2 (fun d v => RD c.w c.lv d v) zd z.cells.toList) (hz : 0 < zd.length) (l : Nat) (hl : l ≤ n) :
    RowC c zd.length (List.replicate l zd) ((Array.range (n * z.cells.size)).map (z.cells[· % z.cells.size]!)) := by
  have hlen := h.length
  simp only [Array.length_toList] at hlen
  refine ⟨fun x hx => by rw [List.eq_of_mem_replicate hx], fun k x j d hx hd => ?_⟩
  have hk := (List.getElem?_eq_some_iff.1 hx).1
  simp only [List.length_replicate] at hk
  have hx' : x = zd := List.eq_of_mem_replicate (List.mem_of_getElem? hx)
  subst hx'
  have hj := (List.getElem?_eq_some_iff.1 hd).1
  obtain ⟨v, q1, q2⟩ := h.get j d hd
  refine ⟨v, ?_, q2⟩
  have hp : k * x.length + j < n * z.cells.size := by
    have : (k + 1) * x.length ≤ n * x.length := Nat.mul_le_mul_right _ (by omega)
    rw [Nat.add_mul] at this
    rw [← hlen]; omega
  rw [Array.getElem?_map, Array.getElem?_range, if_pos hp]
  simp only [Option.map_some, Option.some.injEq]
  have hm : (k * x.length + j) % z.cells.size = j := by
    rw [← hlen, Nat.mul_comm, Nat.mul_add_mod, Nat.mod_eq_of_lt hj]
  rw [hm]
  rw [Array.getElem?_toList] at q1
  simp [getElem!_def, q1]

theorem zeros_one {c : Cx} {as : List AV} {vs : List Value} (h : All2 (VL c) as vs) (hl : as.all AV.leaf = true) : ∀ v ∈ vs, v.oneCell' = true := fun v hv => (all2_one h hl v hv).2

theorem mem_range_map {z : Array Value} {n : Nat} (h : ∀ v ∈ z.toList, v.oneCell' = true) (hz : 0 < z.size) : ∀ v ∈ ((Array.range n).map (z[· % z.size]!)).toList, v.oneCell' = true := by
  intro v hv
  simp only [Array.toList_map, List.mem_map] at hv
  obtain ⟨k, _, rfl⟩ := hv
  have hk : k % z.size < z.size := Nat.mod_lt _ hz
  have : z[k % z.size]! = z[k % z.size] := by simp [hk]
  rw [this]
  exact h _ (by simp)

theorem makeSlice_ok {P : Program} {T : Tab} {c : Cx} {m m' : Mem} (hT : TabOk P T) (hm : MemOk c m) {i : Nat} (hi : m.L[i]? = some none) {t : TypeId} {X Y res : AV} {v u : Value}
    (h : makeSlice T m i t X Y = some (res, m')) (hx : VL c X v) (hy : VL c Y u) : Does P c (Instr.makeSlice t v u) m' res := by
  unfold makeSlice at h
  split at h
  · rename_i k1 l k2 cc
    cases hx with | dat hx => cases hx with | int =>
    cases hy with | dat hy => cases hy with | int =>
    split at h
    · rename_i ti hti
      obtain ⟨_, ds, _, f⟩ := hT.facts hti
      have hk := f.kind
      split at h
      · rename_i e he
        rw [he] at hk
        have : ds = .slice e := by cases ds <;> simp_all [kindOk]
        subst this
        split at h
        · rename_i te hte
          obtain ⟨ie, dse, z, fe⟩ := hT.facts hte
          obtain ⟨hz, hzl⟩ := zerosOk_all2 (c := c) fe.zeros
          split at h
          · rename_i zd m1 hsn
            split at h
            · rename_i hcond
              obtain ⟨hc1, hc2, hc3, hc4, hc5, hc6⟩ := hcond
              simp only [Option.some.injEq, Prod.mk.injEq] at h
              obtain ⟨rfl, rfl⟩ := h
              obtain ⟨c1, g, hm1, hall⟩ := mapS_snap hsn hm hz
              have hfree := mapS_free (fun _ _ _ _ h => snap_free h) _ _ _ _ hsn
              have hzs := fe.zsize
              have hzd : zd.length = te.size := by
                have := hall.length
                simp only [Array.length_toList] at this
                omega
              have hrow := replicate_all2 (n := cc.toNat) hall (by omega) l.toNat (by omega)
              rw [hzd] at hrow
              refine Does.ghost g ?_
              have hrl : (List.replicate l.toNat zd).length = l.toNat := by simp
              obtain ⟨r1, r2, r3⟩ := new_row (f := false) (md := .excl) (cap := cc.toNat) (n := 0) hm1 (hfree.free i hi) (NewW.alloc c1.w ((Array.range (cc.toNat * z.cells.size)).map (z.cells[· % z.cells.size]!)) e) (by intro k _; omega)
                (by simp [hzs]) (mem_range_map (zeros_one hz hzl) (by omega)) hrow (by rw [hrl]; omega) (by unfold maxLen; omega) hc6 (by simp) (by simp) rfl
              rw [hrl] at r1 r2 r3
              refine ⟨_, _, ?_, r1, r2, r3⟩
              have w1 : IntKind.i64.wrap l = l := by
                unfold IntKind.wrap
                simp [IntKind.signed, IntKind.bits]
                omega
              have w2 : IntKind.i64.wrap cc = cc := by
                unfold IntKind.wrap
                simp [IntKind.signed, IntKind.bits]
                omega
              have hb : ie.bytes = te.bytes := fe.bytes
              have ht : ¬ ((cc < 0 || decide (↑te.bytes * cc > 2 ^ 48)) || decide (l < 0) || decide (l > cc)) = true := by
                have : (te.bytes : Int) * cc = cc * te.bytes := Int.mul_comm _ _
                simp; omega
              simp only [Instr.makeSlice, Sem.run_bind, f.und, Result.andThen_ok, asInt, asIntOf, Sem.run_pure, fe.typeInfo, hb, w1, w2, Sem.run_ite]
              rw [if_neg (by simpa using ht)]
              simp only [Sem.run_pure, Result.andThen_ok, run_askRoom, fe.sizeOf]
              by_cases h0 : cc.toNat * te.size = 0
              · have hn0 : cc.toNat = 0 := by
                  rcases Nat.mul_eq_zero.1 h0 with h | h <;> omega
                have hr0 : Array.range 0 = #[] := rfl
                simp [hn0, hr0, newRow, Cx.new]
              · simp only [h0, if_false, Sem.run_bind, fe.zeroValue, Result.andThen_ok, Sem.run_pure, hzs]
                simp [newRow, Cx.new]
            · cases h
          · cases h
        · cases h
      · cases h
    · cases h
  · cases h

end Go.Eng
