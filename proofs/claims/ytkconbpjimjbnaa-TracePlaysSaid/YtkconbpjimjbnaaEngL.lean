/- What is counted, built, read out of memory. -/
import Derived.Test.YtkconbpjimjbnaaEngK
namespace Go.Eng
open Go Go.RowKit

theorem isStrT_some {T : Tab} {t : TypeId} (h : isStrT T t = true) : kindT T t = some .str := by
  unfold isStrT at h
  split at h
  · assumption
  · cases h

theorem isSlT_some {T : Tab} {t : TypeId} (h : isSlT T t = true) : ∃ e, kindT T t = some (.slice e) := by
  unfold isSlT at h
  split at h
  · exact ⟨_, by assumption⟩
  · cases h

theorem lenOf_ok {P : Program} {T : Tab} {c : Cx} (hT : TabOk P T) {t ty : TypeId} {X res : AV} {v : Value} (h : lenOf T t X = some res) (hx : VL c X v) : RunsTo P c (Builtin.len_ #[t] ty #[v]) res := by
  unfold lenOf at h
  split at h
  · split at h
    · rename_i hs
      have hu := kindT_str hT (isStrT_some hs)
      injection h with h; subst h
      cases hx with | dat hx => cases hx with | str =>
      exact ⟨_, by simp [Builtin.len_, run_underlying hu, goInt], .dat (.int _ _)⟩
    · cases h
  · split at h
    · rename_i hs
      obtain ⟨e, hk⟩ := isSlT_some hs
      have hu := kindT_slice hT hk
      injection h with h; subst h
      cases hx with
      | dat hd =>
        obtain ⟨a, cap, rfl, _⟩ := hd.len
        exact ⟨_, by simp [Builtin.len_, run_underlying hu, goInt], .dat (.int _ _)⟩
    · cases h
  · split at h
    · rename_i hs
      obtain ⟨e, hk⟩ := isSlT_some hs
      have hu := kindT_slice hT hk
      injection h with h; subst h
      cases hx with
      | sh _ _ hsl =>
        obtain ⟨ad, cap, ty', n, rfl, _⟩ := hsl
        exact ⟨_, by simp [Builtin.len_, run_underlying hu, goInt], .dat (.int _ _)⟩
    · cases h
  · split at h
    · rename_i hs
      obtain ⟨e, hk⟩ := isSlT_some hs
      have hu := kindT_slice hT hk
      injection h with h; subst h
      cases hx with
      | gh => exact ⟨_, by simp [Builtin.len_, run_underlying hu, goInt], .dat (.int _ _)⟩
    · cases h
  · split at h
    · rename_i n e hk
      have hu := kindT_arr hT hk
      injection h with h; subst h
      refine ⟨_, ?_, .dat (.int _ _)⟩
      simp only [Builtin.len_, List.getElem?_toArray, List.getElem?_cons_zero, Sem.run_bind, run_underlying hu, Result.andThen_ok, goInt]
      cases v <;> rfl
    · cases h

theorem minmaxGo_ok {P : Program} {c : Cx} (mx : Bool) (k : IntKind) : ∀ (as : List AV) (vs : List Value) (a : Int) (res : AV) (w : World), minmaxGo mx k a as = some res → All2 (VL c) as vs →
    ∃ v, (vs.foldlM (if mx then Builtin.max2 else Builtin.min2) (.int k a) : Sem Value).run P w = .ok v w ∧ VL c res v
  | [], [], a, res, w, h, _ => by
    simp only [minmaxGo, Option.some.injEq] at h
    subst h
    exact ⟨_, rfl, .dat (.int _ _)⟩
  | x :: r, v :: s, a, res, w, h, hv => by
    cases x with
    | dat d =>
      cases d with
      | int k' b =>
        simp only [minmaxGo] at h
        have h1 := hv.1
        cases h1 with | dat h1 => cases h1 with | int =>
        obtain ⟨v', h2, h3⟩ := minmaxGo_ok mx k r s _ res w h hv.2
        refine ⟨v', ?_, h3⟩
        cases mx
        · simp only [Bool.false_eq_true, if_false, List.foldlM_cons, Sem.run_bind, Builtin.min2, Sem.run_pure, Result.andThen_ok] at h2 ⊢
          exact h2
        · simp only [if_true, List.foldlM_cons, Sem.run_bind, Builtin.max2, Sem.run_pure, Result.andThen_ok] at h2 ⊢
          exact h2
      | _ => simp [minmaxGo] at h
    | _ => simp [minmaxGo] at h
  | [], _ :: _, _, _, _, _, h => h.elim
  | _ :: _, [], _, _, _, _, h => h.elim

theorem minmax_ok {P : Program} {c : Cx} (mx : Bool) {as : List AV} {vs : List Value} {res : AV} {ts : Array TypeId} {ty : TypeId} (h : minmax mx as = some res) (hv : All2 (VL c) as vs) :
    RunsTo P c (if mx then Builtin.max_ ts ty vs.toArray else Builtin.min_ ts ty vs.toArray) res := by
  unfold minmax at h
  split at h
  · match vs, hv with
    | v :: s, hv =>
      have h1 := hv.1
      cases h1 with | dat h1 => cases h1 with | int =>
      obtain ⟨v', h2, h3⟩ := minmaxGo_ok (P := P) mx _ _ s _ res c.w h hv.2
      refine ⟨v', ?_, h3⟩
      cases mx
      · simpa [Builtin.min_] using h2
      · simpa [Builtin.max_] using h2
  · cases h

/-! ### building -/

theorem foldl_set_splice (off : Nat) : ∀ (ys : List Value) (k : Nat) (cs : Array Value), off + k + ys.length ≤ cs.size →
    ((ys.zipIdx k).foldl (fun cs (x : Value × Nat) => cs.setIfInBounds (off + x.2) x.1) cs).toList = splice cs.toList (off + k) ys
  | [], k, cs, h => by simp [splice]
  | y :: ys, k, cs, h => by
    simp only [List.length_cons] at h
    rw [List.zipIdx_cons, List.foldl_cons, foldl_set_splice off ys (k + 1) _ (by simp; omega)]
    simp only [splice, Array.toList_setIfInBounds, List.length_cons]
    have h1 : off + k < cs.toList.length := by simp; omega
    apply List.ext_getElem?
    intro i
    simp only [List.getElem?_append, List.getElem?_take, List.getElem?_drop, List.length_take, List.length_append, List.length_set, List.getElem?_set, List.length_cons]
    rcases Nat.lt_trichotomy i (off + k) with hi | hi | hi
    · simp only [show i < off + (k + 1) by omega, show ¬ (off + k = i) by omega, if_true, if_false]
      rw [if_pos (by omega), if_pos (by omega), if_pos (by omega), if_pos (by omega), if_pos (by omega)]
    · subst hi
      rw [if_pos (by omega), if_pos (by omega), if_pos (by omega), if_pos rfl, if_pos (by simpa using h1), if_pos (by omega), if_neg (by omega)]
      have : off + k - min (off + k) cs.toList.length = 0 := by omega
      rw [this]; rfl
    · by_cases h2 : i < off + (k + 1) + ys.length
      · rw [if_pos (by simp at h1 ⊢; omega), if_neg (by simp at h1 ⊢; omega), if_pos (by simp at h1 ⊢; omega), if_neg (by simp at h1 ⊢; omega)]
        have : i - min (off + k) cs.toList.length = (i - min (off + (k + 1)) cs.toList.length) + 1 := by simp at h1 ⊢; omega
        rw [this, List.getElem?_cons_succ]
      · rw [if_neg (by simp at h1 ⊢; omega), if_neg (by simp at h1 ⊢; omega), if_neg (by simp at h1 ⊢; omega)]
        congr 1
        simp at h1 ⊢; omega

theorem All2.splice {α β : Type} {R : α → β → Prop} {as : List α} {bs : List β} {xs : List α} {ys : List β} (h : All2 R as bs) (k : All2 R xs ys) (off : Nat) : All2 R (splice as off xs) (splice bs off ys) := by
  unfold Eng.splice
  rw [← k.length]
  exact ((h.take off).append k).append (h.drop _)

theorem VL.cells2 {c : Cx} {a : AV} {v : Value} (h : VL c a v) (hl : a.cells.all AV.leaf = true) : All2 (VL c) a.cells v.cells.toList := by
  have := h.vals
  by_cases hagg : ∃ cs, a = .agg cs
  · obtain ⟨cs, rfl⟩ := hagg
    exact this
  · have hc : a.cells = [a] := by cases a <;> first | rfl | exact absurd ⟨_, rfl⟩ hagg
    have hv : valsOf a v = [v] := by cases a <;> first | rfl | exact absurd ⟨_, rfl⟩ hagg
    rw [hc] at hl
    have h1 := (h.leaf (by simpa using hl)).1
    rw [h1, hc]
    rw [hc, hv] at this
    exact this

theorem fill_ok {c : Cx} {place place2 : Nat → Option (Nat × Nat)} (hpl2 : ∀ i x, place i = some x → place2 i = some x) : ∀ (ps : List (Nat × AV)) (qs : List (Nat × Value)) (cs cs' : List AV) (vs : Array Value), fillP place cs ps = some cs' → All2 (VL c) cs vs.toList →
    All2 (fun (p : Nat × AV) (q : Nat × Value) => p.1 = q.1 ∧ VL c p.2 q.2) ps qs → ∃ vs', Instr.fill place2 vs qs = some vs' ∧ All2 (VL c) cs' vs'.toList ∧ vs'.size = vs.size
  | [], [], cs, cs', vs, h, hv, _ => by
    simp only [fillP, Option.some.injEq] at h
    subst h
    exact ⟨vs, rfl, hv, rfl⟩
  | (i, a) :: r, (i', v) :: s, cs, cs', vs, h, hv, hp => by
    obtain ⟨⟨rfl, ha⟩, hr⟩ := hp
    simp only [fillP] at h
    split at h
    · cases h
    · rename_i off size hpl
      split at h
      · rename_i hc
        obtain ⟨h1, h2, h3⟩ := hc
        have hcells := ha.cells2 h3
        have hlen := hcells.length
        have hvl := hv.length
        simp only [Array.length_toList] at hlen hvl
        have hsp := foldl_set_splice off v.cells.toList 0 vs (by simp; omega)
        have hz : (v.cells.zipIdx.foldl (fun cs (x : Value × Nat) => cs.setIfInBounds (off + x.2) x.1) vs).toList = splice vs.toList off v.cells.toList := by
          rw [← Array.foldl_toList, Array.toList_zipIdx]
          simpa using hsp
        obtain ⟨vs', q1, q2, q3⟩ := fill_ok hpl2 r s (splice cs off a.cells) cs' (v.cells.zipIdx.foldl (fun cs (x : Value × Nat) => cs.setIfInBounds (off + x.2) x.1) vs) h (by rw [hz]; exact hv.splice hcells off) hr
        refine ⟨vs', ?_, q2, ?_⟩
        · simp only [Instr.fill, hpl2 _ _ hpl]
          rw [if_neg (by simp; omega)]
          exact q1
        · rw [q3]
          have := congrArg List.length hz
          simp only [Array.length_toList, splice, List.length_append, List.length_take, List.length_drop] at this
          rw [this]
          omega
      · cases h
  | [], _ :: _, _, _, _, _, _, h => h.elim
  | _ :: _, [], _, _, _, _, _, h => h.elim

end Go.Eng
