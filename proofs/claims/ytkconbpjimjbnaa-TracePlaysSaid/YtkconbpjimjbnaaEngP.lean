/- Free places stay free; boxes, rows that are built and made, conversions. -/
import Derived.Test.YtkconbpjimjbnaaEngO
namespace Go.Eng
open Go Go.RowKit

/-- places of the list that are free stay free, and it keeps its length -/
structure Free (m m' : Mem) : Prop where
  free : ∀ (i : Nat), m.L[i]? = some none → m'.L[i]? = some none
  len : m'.L.length = m.L.length

theorem Free.refl (m : Mem) : Free m m := ⟨fun _ h => h, rfl⟩
theorem Free.trans {a b c : Mem} (h : Free a b) (k : Free b c) : Free a c := ⟨fun i hi => k.free i (h.free i hi), k.len.trans h.len⟩

theorem Free.set {m : Mem} {k : Nat} {e0 e : Ent} (h : m.get (.loc k) = some e0) : Free m (m.set (.loc k) e) := by
  have hk := get_loc h
  refine ⟨fun i hi => ?_, by simp [Mem.set]⟩
  simp only [Mem.set]
  rw [set_get]
  split
  · rename_i h2
    rw [h2.1, hi] at hk
    cases hk
  · exact hi

theorem Free.setRow {m : Mem} {g j : Nat} {a : AV} : Free m (m.setRow g j a) := by
  unfold Mem.setRow
  split
  · exact ⟨fun i hi => hi, rfl⟩
  · exact .refl _

theorem snap_free {m m' : Mem} {a : AV} {d : D} (h : snap m a = some (d, m')) : Free m m' := by
  unfold snap at h
  split at h
  · simp only [Option.some.injEq, Prod.mk.injEq] at h; rw [← h.2]; exact .refl _
  · split at h
    · rename_i md sz' xs hr
      split at h
      · simp only [Option.some.injEq, Prod.mk.injEq] at h
        rw [← h.2]
        cases md <;> first
          | exact .refl _
          | exact .set hr
      · cases h
    · cases h
  · split at h
    · rename_i md sz' xs hr
      split at h
      · simp only [Option.some.injEq, Prod.mk.injEq] at h
        rw [← h.2]
        cases md <;> first
          | exact .refl _
          | exact .setRow
      · cases h
    · cases h
  · cases h

theorem mapS_free {α β : Type} {f : Mem → α → Option (β × Mem)} (hf : ∀ m a b m', f m a = some (b, m') → Free m m') : ∀ (as : List α) (bs : List β) (m m' : Mem), mapS f m as = some (bs, m') → Free m m'
  | [], bs, m, m', h => by
    simp only [mapS, Option.some.injEq, Prod.mk.injEq] at h
    rw [← h.2]; exact .refl _
  | a :: r, bs, m, m', h => by
    simp only [mapS] at h
    split at h
    · rename_i b m1 h1
      split at h
      · rename_i bs1 m2 h2
        simp only [Option.some.injEq, Prod.mk.injEq] at h
        rw [← h.2]
        exact (hf _ _ _ _ h1).trans (mapS_free hf r _ _ _ h2)
      · cases h
    · cases h

theorem keep_free {m m' : Mem} {a b : AV} (h : keep m a = some (b, m')) : Free m m' := by
  unfold keep at h
  split at h
  · split at h
    · rename_i d m1 h1
      simp only [Option.some.injEq, Prod.mk.injEq] at h
      rw [← h.2]; exact snap_free h1
    · cases h
  · simp only [Option.some.injEq, Prod.mk.injEq] at h
    rw [← h.2]; exact .refl _

theorem pass1_free {m m' : Mem} {a b : AV} (h : pass1 m a = some (b, m')) : Free m m' := by
  unfold pass1 at h
  split at h
  case h_6 | h_7 =>
    split at h
    · rename_i d m1 h1
      simp only [Option.some.injEq, Prod.mk.injEq] at h
      rw [← h.2]; exact snap_free h1
    · cases h
  case h_8 =>
    split at h
    · simp only [Option.some.injEq, Prod.mk.injEq] at h
      rw [← h.2]; exact .refl _
    · cases h
  case h_9 => cases h
  all_goals
    simp only [Option.some.injEq, Prod.mk.injEq] at h
    rw [← h.2]; exact .refl _

theorem lpass_free {m m' : Mem} {a b : AV} (h : lpass m a = some (b, m')) : Free m m' := by
  unfold lpass at h
  split at h
  · cases h
  · exact pass1_free h

theorem giveSh_free {m m' : Mem} {f : Bool} {i sz off len : Nat} {b : AV} (h : giveSh m f i sz off len = some (b, m')) : Free m m' := by
  unfold giveSh at h
  split at h
  · rename_i md s xs hr
    split at h
    · simp only [Option.some.injEq, Prod.mk.injEq] at h
      rw [← h.2]; exact .set hr
    · exact lpass_free h
  · cases h

theorem giveL_free {f : Mem → Nat → Nat → AV → Option (AV × Mem)} (hf : ∀ m g j a b m', f m g j a = some (b, m') → Free m m') : ∀ (as bs : List AV) (m m' : Mem) (g j : Nat), giveL f m g j as = some (bs, m') → Free m m'
  | [], bs, m, m', g, j, h => by
    simp only [giveL, Option.some.injEq, Prod.mk.injEq] at h
    rw [← h.2]; exact .refl _
  | a :: r, bs, m, m', g, j, h => by
    simp only [giveL] at h
    split at h
    · rename_i b m1 h1
      split at h
      · rename_i bs1 m2 h2
        simp only [Option.some.injEq, Prod.mk.injEq] at h
        rw [← h.2]
        exact (hf _ _ _ _ _ _ h1).trans (giveL_free hf r _ _ _ _ _ h2)
      · cases h
    · cases h

theorem givePtr_free {f : Mem → Nat → Nat → AV → Option (AV × Mem)} (hf : ∀ m g j a b m', f m g j a = some (b, m') → Free m m') {m m' : Mem} {r : Ref} {off : Nat} {b : AV} (h : givePtr f m r off = some (b, m')) : Free m m' := by
  unfold givePtr at h
  split at h
  · simp only [Option.some.injEq, Prod.mk.injEq] at h
    rw [← h.2]; exact .refl _
  · split at h
    · rename_i cs hi
      split at h
      · rename_i ds m1 h1
        simp only [Option.some.injEq, Prod.mk.injEq] at h
        rw [← h.2]
        have f1 := giveL_free hf _ _ _ _ _ _ h1
        have f0 := Free.set (e := .fwd m.G.length) hi
        exact ⟨fun i hi => f1.free i (f0.free i hi), f1.len.trans f0.len⟩
      · cases h
    · cases h

theorem give_free : ∀ (n : Nat) (m : Mem) (g j : Nat) (a b : AV) (m' : Mem), give n m g j a = some (b, m') → Free m m'
  | 0, m, g, j, a, b, m', h => by
    unfold give at h
    split at h
    · exact giveSh_free h
    · exact lpass_free h
  | n + 1, m, g, j, a, b, m', h => by
    unfold give at h
    split at h
    · exact giveSh_free h
    · exact givePtr_free (give_free n) h
    · exact lpass_free h

theorem pass_free {m m' : Mem} {a b : AV} (h : pass m a = some (b, m')) : Free m m' := by
  unfold pass at h
  split at h
  · split at h
    · rename_i ds m1 h1
      simp only [Option.some.injEq, Prod.mk.injEq] at h
      rw [← h.2]; exact mapS_free (fun _ _ _ _ h => pass1_free h) _ _ _ _ h1
    · cases h
  · split at h
    · rename_i ds m1 h1
      simp only [Option.some.injEq, Prod.mk.injEq] at h
      rw [← h.2]; exact mapS_free (fun _ _ _ _ h => pass1_free h) _ _ _ _ h1
    · cases h
  · exact give_free _ _ _ _ _ _ _ h
  · exact pass1_free h

/-! ### boxes -/

theorem box_ok {P : Program} {c : Cx} {m m' : Mem} (hm : MemOk c m) {i : Nat} (hi : m.L[i]? = some none) {t : TypeId} {x res : AV} {v : Value} (h : box m i x = some (res, m')) (hx : VL c x v) :
    Does P c (Instr.box t v) m' res := by
  unfold box at h
  split at h
  · rename_i xs m1 h1
    split at h
    · rename_i hl
      simp only [Option.some.injEq, Prod.mk.injEq] at h
      obtain ⟨rfl, rfl⟩ := h
      obtain ⟨c1, g, hm1, hall⟩ := mapS_keep h1 hm hx.vals
      have hfree := mapS_free (fun _ _ _ _ h => keep_free h) _ _ _ _ h1
      refine Does.ghost g ?_
      have hv := vals_cells hall hl
      obtain ⟨q1, q2, q3⟩ := new_obj hm1 (hfree.free i hi) (NewW.alloc c1.w v.cells t) (by rw [hv]; exact hall)
      exact ⟨_, _, by simp [Instr.box, newVar, newRow, Cx.new], q1, q2, q3⟩
    · cases h
  · cases h

/-! ### rows -/

theorem mapS_snap {c : Cx} {m m' : Mem} {as : List AV} {ds : List D} {vs : List Value} (hs : mapS snap m as = some (ds, m')) (h : MemOk c m) (hv : All2 (VL c) as vs) :
    ∃ c', Ghost c c' ∧ MemOk c' m' ∧ All2 (fun d v => RD c'.w c'.lv d v) ds vs :=
  mapS_ok (P := fun c a v => VL c a v) (R := fun c d v => RD c.w c.lv d v) (fun c m a b m' v h1 h2 h3 => by obtain ⟨c', g, k, r, _⟩ := snap_ok h1 h2 h3; exact ⟨c', g, k, r⟩)
    (fun _ _ _ _ x h => h.ext x) (fun _ _ _ _ x h => h.stay x.stay) as vs ds c m m' hs h hv

theorem chunks_get {α : Type} (sz : Nat) : ∀ (n : Nat) (l : List α) (k : Nat) (x : List α), (chunks sz n l)[k]? = some x → k < n ∧ x = (l.drop (k * sz)).take sz
  | 0, l, k, x, h => by simp [chunks] at h
  | n + 1, l, 0, x, h => by
    simp only [chunks, List.getElem?_cons_zero, Option.some.injEq] at h
    subst h
    exact ⟨by omega, by simp⟩
  | n + 1, l, k + 1, x, h => by
    simp only [chunks, List.getElem?_cons_succ] at h
    obtain ⟨h1, h2⟩ := chunks_get sz n (l.drop sz) k x h
    refine ⟨by omega, ?_⟩
    rw [h2, List.drop_drop, Nat.add_mul, Nat.one_mul, Nat.add_comm]

theorem chunks_length {α : Type} (sz : Nat) : ∀ (n : Nat) (l : List α), (chunks sz n l).length = n
  | 0, l => rfl
  | n + 1, l => by simp [chunks, chunks_length sz n]

/-- cells that read as data, in elements -/
theorem rowC_chunks {c : Cx} {sz n : Nat} {ds : List D} {cur : Array Value} (h : All2 (fun d v => RD c.w c.lv d v) ds cur.toList) (hl : ds.length = n * sz) : RowC c sz (chunks sz n ds) cur := by
  refine ⟨fun x hx => ?_, fun k x j d hx hd => ?_⟩
  · obtain ⟨k, hk⟩ := List.getElem?_of_mem hx
    obtain ⟨h1, h2⟩ := chunks_get sz n ds k x hk
    rw [h2]
    have : (k + 1) * sz ≤ n * sz := Nat.mul_le_mul_right _ h1
    rw [Nat.add_mul] at this
    simp; omega
  · obtain ⟨h1, h2⟩ := chunks_get sz n ds k x hx
    rw [h2, sub_get] at hd
    split at hd
    · obtain ⟨v, q1, q2⟩ := h.get _ d hd
      exact ⟨v, by simpa using q1, q2⟩
    · cases hd

theorem all2_rd_one {c : Cx} : ∀ {ds : List D} {vs : List Value}, All2 (fun d v => RD c.w c.lv d v) ds vs → ∀ v ∈ vs, v.oneCell' = true
  | [], [], _ => by simp
  | d :: r, v :: s, h => by
    intro u hu
    rcases List.mem_cons.1 hu with rfl | hu
    · exact h.1.oneCell
    · exact all2_rd_one h.2 u hu
  | [], _ :: _, h => h.elim
  | _ :: _, [], h => h.elim

theorem zeroCells_length (z : List AV) : ∀ n, (zeroCells z n).length = n * z.length
  | 0 => by simp [zeroCells]
  | n + 1 => by simp [zeroCells, zeroCells_length z n, Nat.add_mul, Nat.add_comm]

theorem zeroCells_get (z : List AV) (n k : Nat) (hz : 0 < z.length) (hk : k < n * z.length) : (zeroCells z n)[k]? = z[k % z.length]? := by
  induction n generalizing k with
  | zero => simp at hk
  | succ n ih =>
    simp only [zeroCells]
    rw [List.getElem?_append]
    split
    · rename_i h; rw [Nat.mod_eq_of_lt h]
    · rename_i h
      rw [ih (k - z.length) (by rw [Nat.add_mul] at hk; omega)]
      have : k % z.length = (k - z.length) % z.length := Nat.mod_eq_sub_mod (by omega)
      rw [this]

/-- the zero cells of a row -/
theorem zeroCells_all2 {c : Cx} {zs : List AV} {z : Value} {n : Nat} (h : All2 (VL c) zs z.cells.toList) (hz : 0 < zs.length) :
    All2 (VL c) (zeroCells zs n) ((Array.range (n * z.cells.size)).map (z.cells[· % z.cells.size]!)).toList := by
  have hl := h.length
  simp only [Array.length_toList] at hl
  refine All2.of (by simp [zeroCells_length, hl]) fun j a ha v hv => ?_
  have hj := (List.getElem?_eq_some_iff.1 ha).1
  rw [zeroCells_length] at hj
  rw [zeroCells_get zs n j hz hj] at ha
  obtain ⟨u, q1, q2⟩ := h.get _ a ha
  simp only [Array.toList_map, Array.toList_range, List.getElem?_map] at hv
  rw [List.getElem?_range (by rw [← hl]; exact hj)] at hv
  simp only [Option.map_some, Option.some.injEq] at hv
  have hm : j % zs.length < zs.length := Nat.mod_lt _ hz
  rw [← hl] at hv
  have : z.cells[j % zs.length]! = u := by
    rw [Array.getElem?_toList] at q1
    simp [getElem!_def, q1]
  rw [this] at hv
  rw [← hv]; exact q2

end Go.Eng
