/- What the arguments of a row read as: data of their types. -/
import Derived.Test.YtkconbpjimjbnaaEngZd
namespace Go.Eng
open Go Go.RowKit Go.ChangeShapes

def TyFs (ty : TypeId → List D → Prop) : List Field → List D → Prop
  | [], ds => ds = []
  | f :: r, ds => ∃ p q, ds = p ++ q ∧ ty f.type p ∧ TyFs ty r q

/-- cells of a type, as data -/
def Ty (P : Program) : Nat → TypeId → List D → Prop
  | 0, _, _ => False
  | n + 1, t, ds => match P.underlying t with
    | some .bool => ∃ b, ds = [.bool b]
    | some (.int k) => ∃ z, ds = [.int k z] ∧ (Lit.int k z).wf = true
    | some .string => ∃ s, ds = [.str s] ∧ s.size ≤ maxLen
    | some (.slice e) => ∃ k xs, ds = [.list k (P.cellsOf e) xs] ∧ (∀ x ∈ xs, Ty P n e x) ∧ xs.length ≤ maxLen ∧ (k = .nil → xs = [])
    | some (.struct fs) => TyFs (Ty P n) fs.toList ds
    | some (.array m e) => ∃ parts : List (List D), parts.length = m ∧ ds = parts.flatten ∧ ∀ p ∈ parts, Ty P n e p
    | _ => False

theorem cell_spot {w : World} {a : Addr} {v : Value} (h : w.cell? a = some v) : a.spot = none := by
  obtain ⟨b, o, sp⟩ := a
  cases sp with
  | none => rfl
  | some s =>
    simp only [World.cell?] at h
    split at h
    · simp at h
    · cases h

section
variable {H : Type} {enc : TypeId × Value → H} {P : Program} {w : World} {held : Bool}

abbrev RB (w : World) (d : D) (v : Value) : Prop := RD w (Cx.base w).lv d v

theorem mapM_at {α β : Type} {f : α → Option β} : ∀ {l : List α} {r : List β}, l.mapM f = some r → ∀ (i : Nat) (x : α), l[i]? = some x → ∃ y, r[i]? = some y ∧ f x = some y
  | [], r, h, i, x, hx => by simp at hx
  | a :: l, r, h, i, x, hx => by
    rw [List.mapM_cons] at h
    cases ha : f a with
    | none => rw [ha] at h; cases h
    | some y =>
      rw [ha] at h
      cases hl : l.mapM f with
      | none => rw [hl] at h; cases h
      | some ys =>
        rw [hl] at h
        have h : y :: ys = r := by simpa using h
        subst h
        cases i with
        | zero =>
          simp only [List.getElem?_cons_zero, Option.some.injEq] at hx
          subst hx
          exact ⟨y, rfl, ha⟩
        | succ i =>
          obtain ⟨z, h1, h2⟩ := mapM_at hl i x (by simpa using hx)
          exact ⟨z, by simpa using h1, h2⟩

theorem fields_ty {n m : Nat} (ih : ∀ (n : Nat) (t : TypeId) (cs : List Value) (x : DataW H × List MemPlace), DataW.trod enc P w 0 (fun _ => true) held n t cs = some x → flat P m t = true → ∃ ds, All2 (RB w) ds cs ∧ Ty P m t ds) {cs : List Value} :
    ∀ (fs : List Field) (off : Nat) (xs : List (DataW H × List MemPlace)), fs.mapM (fun f => DataW.trod enc P w 0 (fun _ => true) held n f.type ((cs.drop f.offset).take (P.cellsOf f.type))) = some xs →
      tile P off fs = some cs.length → (fs.all fun f => flat P m f.type) = true → ∃ ds, All2 (RB w) ds (cs.drop off) ∧ TyFs (Ty P m) fs ds
  | [], off, xs, _, ht, _ => by
    simp only [tile, Option.some.injEq] at ht
    subst ht
    exact ⟨[], by simp [All2], rfl⟩
  | f :: r, off, xs, h, ht, hf => by
    simp only [tile] at ht
    split at ht
    · rename_i hoff
      subst hoff
      rw [List.mapM_cons] at h
      simp only [List.all_cons, Bool.and_eq_true] at hf
      cases ha : DataW.trod enc P w 0 (fun _ => true) held n f.type ((cs.drop f.offset).take (P.cellsOf f.type)) with
      | none => rw [ha] at h; cases h
      | some y =>
        rw [ha] at h
        cases hl : r.mapM (fun f => DataW.trod enc P w 0 (fun _ => true) held n f.type ((cs.drop f.offset).take (P.cellsOf f.type))) with
        | none => rw [hl] at h; cases h
        | some ys =>
          obtain ⟨p, p1, p2⟩ := ih _ _ _ _ ha hf.1
          obtain ⟨q, q1, q2⟩ := fields_ty ih r _ ys hl ht hf.2
          refine ⟨p ++ q, ?_, p, q, rfl, p2, q2⟩
          have := p1.append q1
          rw [← List.drop_drop, List.take_append_drop] at this
          exact this
    · cases ht

theorem all2_flatten : ∀ (parts : List (List D)) (k : Nat) (cs : List Value), cs.length = parts.length * k → (∀ (i : Nat) (p : List D), parts[i]? = some p → All2 (RB w) p ((cs.drop (i * k)).take k)) → All2 (RB w) parts.flatten cs
  | [], k, cs, h, _ => by
    have : cs = [] := by simpa using h
    subst this
    trivial
  | p :: r, k, cs, h, hp => by
    have h0 := hp 0 p rfl
    simp only [Nat.zero_mul, List.drop_zero] at h0
    have := all2_flatten r k (cs.drop k) (by simp only [List.length_drop, List.length_cons] at h ⊢; rw [h, Nat.add_mul]; omega) fun i q hq => by
      have := hp (i + 1) q (by simpa using hq)
      rw [List.drop_drop]
      rw [Nat.add_mul, Nat.one_mul] at this
      rw [Nat.add_comm k]
      exact this
    have h2 := h0.append this
    rw [List.take_append_drop] at h2
    exact h2

theorem trod_ty : ∀ (m n : Nat) (t : TypeId) (cs : List Value) (x : DataW H × List MemPlace), DataW.trod enc P w 0 (fun _ => true) held n t cs = some x → flat P m t = true → ∃ ds, All2 (RB w) ds cs ∧ Ty P m t ds := by
  intro m
  induction m with
  | zero => intro n t cs x _ h; cases h
  | succ m ih =>
    intro n t cs x h hf
    cases n with
    | zero => simp [DataW.trod] at h
    | succ n =>
      unfold DataW.trod at h
      unfold flat at hf
      split at h
      case h_1 b ht => exact ⟨[.bool b], ⟨.bool b, trivial⟩, by simp only [Ty, ht]; exact ⟨b, rfl⟩⟩
      case h_2 k k' z ht =>
        split at h
        · rename_i hc
          obtain ⟨rfl, hw⟩ := hc
          exact ⟨[.int k' z], ⟨.int _ z, trivial⟩, by simp only [Ty, ht]; exact ⟨z, rfl, hw⟩⟩
        · cases h
      case h_4 s ht =>
        split at h
        · rename_i hc
          exact ⟨[.str s], ⟨.str s, trivial⟩, by simp only [Ty, ht]; exact ⟨s, rfl, hc⟩⟩
        · cases h
      case h_7 e ht =>
        exact ⟨[.list .nil (P.cellsOf e) []], ⟨.nil _, trivial⟩, by simp only [Ty, ht]; exact ⟨.nil, [], rfl, by simp, by simp, fun _ => rfl⟩⟩
      case h_8 e a len cap ht =>
        rw [ht] at hf
        simp only [Bool.and_eq_true, decide_eq_true_eq] at hf
        simp only at h
        obtain ⟨hf, hpos⟩ := hf
        split at h
        · rename_i hc
          simp only [if_true, Option.map_eq_some_iff, Option.bind_eq_some_iff] at h
          obtain ⟨elems, he, rest, hrest, rfl⟩ := h
          have hel : elems.length = len := by simpa using mapM_some_length he
          -- an element's cells
          have cells : ∀ (i : Nat) (y : DataW H × List MemPlace), (w.cells? 0 (a.add (i * P.cellsOf e)) (P.cellsOf e)).bind (DataW.trod enc P w 0 (fun _ => true) held n e) = some y →
              a.spot = none ∨ i ≠ 0 := fun i y hy => by
            by_cases hi : i = 0
            · left
              subst hi
              obtain ⟨cs', hcs, _⟩ := Option.bind_eq_some_iff.1 hy
              unfold World.cells? at hcs
              split at hcs
              · obtain ⟨v, _, hv⟩ := mapM_at hcs 0 0 (by simp [hpos])
                have := cell_spot hv
                simpa [Addr.add] using this
              · cases hcs
            · exact .inr hi
          by_cases hcap : cap = 0
          · have hl0 : len = 0 := by omega
            subst hcap hl0
            exact ⟨[.list .any (P.cellsOf e) []], ⟨.void _ _ (by simp), trivial⟩, by simp only [Ty, ht]; exact ⟨.any, [], rfl, by simp, by simp, fun h => by cases h⟩⟩
          · have hspot : a.spot = none := by
              by_cases hl0 : len = 0
              · have h0 : (List.range (cap - len))[0]? = some 0 := by rw [List.getElem?_range (by omega)]
                obtain ⟨y, _, hy⟩ := mapM_at hrest 0 0 h0
                rcases cells _ y hy with h | h
                · exact h
                · omega
              · have h0 : (List.range len)[0]? = some 0 := by rw [List.getElem?_range (by omega)]
                obtain ⟨y, _, hy⟩ := mapM_at he 0 0 h0
                rcases cells _ y hy with h | h
                · exact h
                · omega
            obtain ⟨b, o, sp⟩ := a
            simp only at hspot
            subst hspot
            -- the elements as data
            have elem : ∀ i, i < len → ∃ (cs' : List Value) (ds : List D), cs'.length = P.cellsOf e ∧ (∀ j v, cs'[j]? = some v → w.cell? ⟨b, o + (i * P.cellsOf e + j), none⟩ = some v) ∧ All2 (RB w) ds cs' ∧ Ty P m e ds := by
              intro i hi
              obtain ⟨y, _, hy⟩ := mapM_at he i i (List.getElem?_range hi)
              obtain ⟨cs', hcs, hy'⟩ := Option.bind_eq_some_iff.1 hy
              obtain ⟨ds, h1, h2⟩ := ih n e cs' y hy' hf
              unfold World.cells? at hcs
              split at hcs
              · have hl : cs'.length = P.cellsOf e := by simpa using mapM_some_length hcs
                refine ⟨cs', ds, hl, fun j v hj => ?_, h1, h2⟩
                have hjl := (List.getElem?_eq_some_iff.1 hj).1
                obtain ⟨v', q1, q2⟩ := mapM_at hcs j j (List.getElem?_range (by omega))
                rw [hj] at q1
                injection q1 with q1
                subst q1
                rw [add_off, add_off] at q2
                rw [← q2]
                congr 2
                omega
              · cases hcs
            -- chosen
            let pick : Nat → List Value × List D := fun i => if h : i < len then ((elem i h).choose, (elem i h).choose_spec.choose) else ([], [])
            have hpick : ∀ i, i < len → (pick i).1.length = P.cellsOf e ∧ (∀ j v, (pick i).1[j]? = some v → w.cell? ⟨b, o + (i * P.cellsOf e + j), none⟩ = some v) ∧ All2 (RB w) (pick i).2 (pick i).1 ∧ Ty P m e (pick i).2 := by
              intro i hi
              simp only [pick, dif_pos hi]
              exact (elem i hi).choose_spec.choose_spec
            let xs : Row := (List.range len).map fun i => (pick i).2
            have hxl : xs.length = len := by simp [xs]
            have hxk : ∀ k x, xs[k]? = some x → k < len ∧ x = (pick k).2 := by
              intro k x hx
              simp only [xs, List.getElem?_map] at hx
              by_cases hk : k < len
              · rw [List.getElem?_range hk] at hx
                simp only [Option.map_some, Option.some.injEq] at hx
                exact ⟨hk, hx.symm⟩
              · rw [List.getElem?_eq_none (by simp; omega)] at hx; cases hx
            have hsz : ∀ x ∈ xs, x.length = P.cellsOf e := by
              intro x hx
              obtain ⟨k, hk⟩ := List.getElem?_of_mem hx
              obtain ⟨h1, rfl⟩ := hxk k x hk
              have := hpick k h1
              rw [this.2.2.1.length]; exact this.1
            refine ⟨[.list .any (P.cellsOf e) xs], ⟨?_, trivial⟩, by simp only [Ty, ht]; exact ⟨.any, xs, rfl, fun x hx => by
              obtain ⟨k, hk⟩ := List.getElem?_of_mem hx
              obtain ⟨h1, rfl⟩ := hxk k x hk
              exact (hpick k h1).2.2.2, by omega, fun h => by cases h⟩⟩
            have := RD.list (w := w) (lv := (Cx.base w).lv) (k := .any) (sz := P.cellsOf e) (xs := xs) (b := b) (o := o) (cap := cap) (fun k j => ((pick k).1[j]?).getD default) hsz (by omega) hc.2.2
              (fun hp => by
                have hlast := hpick (len - 1) (by omega)
                have hj : P.cellsOf e - 1 < (pick (len - 1)).1.length := by omega
                have hcell := hlast.2.1 (P.cellsOf e - 1) _ (by rw [List.getElem?_eq_getElem hj])
                simp only [World.cell?] at hcell
                simp only [Cx.base]
                split at hcell
                · rename_i cs0 _ _ hheap
                  rw [hheap]
                  have hlt := (Array.getElem?_eq_some_iff.1 (by simpa using hcell)).1
                  simp only
                  have e1 : (len - 1) * P.cellsOf e + (P.cellsOf e - 1) + 1 = len * P.cellsOf e := by
                    have : len = (len - 1) + 1 := by omega
                    rw [this, Nat.add_mul]
                    simp only [Nat.add_sub_cancel]
                    omega
                  rw [hxl]
                  omega
                · cases hcell)
              (fun k x j d hx hd => by
                obtain ⟨h1, rfl⟩ := hxk k x hx
                obtain ⟨v, q1, q2⟩ := (hpick k h1).2.2.1.get j d hd
                have := (hpick k h1).2.1 j v q1
                rw [this, q1]; rfl)
              (fun k x j d hx hd => by
                obtain ⟨h1, rfl⟩ := hxk k x hx
                obtain ⟨v, q1, q2⟩ := (hpick k h1).2.2.1.get j d hd
                rw [q1]; exact q2) (by simp) (by simp)
            rw [hxl] at this
            exact this
        · cases h
      case h_9 fs ht =>
        rw [ht] at hf
        simp only [Bool.and_eq_true, beq_iff_eq] at hf
        split at h
        · rename_i hc
          obtain ⟨xs, hx, _⟩ := Option.map_eq_some_iff.1 h
          obtain ⟨ds, h1, h2⟩ := fields_ty ih fs.toList 0 xs hx (by rw [hc]; exact hf.2) hf.1
          exact ⟨ds, by simpa using h1, by simp only [Ty, ht]; exact h2⟩
        · cases h
      case h_10 cs x0 cs1 k e ht =>
        rw [ht] at hf
        simp only [Bool.and_eq_true, beq_iff_eq] at hf
        split at h
        · rename_i hc
          obtain ⟨xs, hx, _⟩ := Option.map_eq_some_iff.1 h
          have elem : ∀ i, i < k → ∃ ds : List D, All2 (RB w) ds ((cs.drop (i * P.cellsOf e)).take (P.cellsOf e)) ∧ Ty P m e ds := by
            intro i hi
            obtain ⟨y, _, hy⟩ := mapM_at hx i i (List.getElem?_range hi)
            exact ih n e _ y hy hf.1
          let pick : Nat → List D := fun i => if h : i < k then (elem i h).choose else []
          have hpick : ∀ i, i < k → All2 (RB w) (pick i) ((cs.drop (i * P.cellsOf e)).take (P.cellsOf e)) ∧ Ty P m e (pick i) := by
            intro i hi
            simp only [pick, dif_pos hi]
            exact (elem i hi).choose_spec
          refine ⟨((List.range k).map pick).flatten, all2_flatten _ (P.cellsOf e) cs (by simp only [List.length_map, List.length_range]; rw [hc, hf.2]) (fun i p hp => ?_), by
            simp only [Ty, ht]
            refine ⟨(List.range k).map pick, by simp, rfl, fun p hp => ?_⟩
            obtain ⟨i, hi, rfl⟩ := List.mem_map.1 hp
            exact (hpick i (List.mem_range.1 hi)).2⟩
          rw [List.getElem?_map] at hp
          by_cases hi : i < k
          · rw [List.getElem?_range hi] at hp
            simp only [Option.map_some, Option.some.injEq] at hp
            subst hp
            exact (hpick i hi).1
          · rw [List.getElem?_eq_none (by simp; omega)] at hp; cases hp
        · cases h
      all_goals (exfalso; simp_all)

end

end Go.Eng
