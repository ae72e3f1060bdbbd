/- From a contract to a row: the world that a call of a row finds; what it leaves reads as before. -/
import Derived.Test.YtkbbgehnooncoaaGreatDoorWp17
import Derived.Below
import Derived.ProofKit
import Derived.OpenShut
section
namespace Go.Eng
open Go Go.RowKit Go.ChangeShapes
variable [Inhabited Pkg]
set_option linter.unusedSectionVars false

section
variable {H : Type} {enc : TypeId × Value → H} {P : Program} {w : World} {base : Nat} {held : Bool}

theorem mapM_same {α β : Type} {f g : α → Option β} : ∀ {l : List α} {r : List β}, l.mapM f = some r → (∀ x y, x ∈ l → y ∈ r → f x = some y → g x = some y) → l.mapM g = some r := mapM_carry

/-- does a list of fields fill the cells without a gap? -/
def tile (P : Program) : Nat → List Field → Option Nat
  | off, [] => some off
  | off, f :: r => if f.offset = off then tile P (off + P.cellsOf f.type) r else none

/-- types without pointers -/
def flat (P : Program) : Nat → TypeId → Bool
  | 0, _ => false
  | n + 1, t => match P.underlying t with
    | some .bool => true
    | some (.int _) => true
    | some .string => true
    | some (.slice e) => flat P n e && decide (0 < P.cellsOf e)
    | some (.struct fs) => fs.toList.all (fun f => flat P n f.type) && tile P 0 fs.toList == some (P.cellsOf t)
    | some (.array m e) => flat P n e && m * P.cellsOf e == P.cellsOf t
    | _ => false

/-- A reading that takes spare places reads the same under any choice that takes those of its own blocks. -/
theorem trodStep_spare {sp : Nat → Bool} {m : Nat} {r r' : TypeId → List Value → Option (DataW H × List MemPlace)}
    (hr : ∀ t, flat P m t = true → ∀ cs x, r t cs = some x → (∀ p ∈ x.2, sp p.block = true) → r' t cs = some x) {t : TypeId} (hf : flat P (m + 1) t = true) {cs : List Value} {x : DataW H × List MemPlace}
    (h : DataW.trodStep enc P w base (fun _ => true) held r t cs = some x) (hs : ∀ p ∈ x.2, sp p.block = true) : DataW.trodStep enc P w base sp held r' t cs = some x := by
  unfold flat at hf
  unfold DataW.trodStep at h ⊢
  split at h
  case h_6 e a ht => simp only [ht] at hf; cases hf
  case h_8 e a len cap ht =>
    simp only [ht, Bool.and_eq_true, decide_eq_true_eq] at hf
    simp only at h ⊢
    split at h
    · rename_i hc
      rw [if_pos hc]
      simp only [if_true, Option.map_eq_some_iff, Option.bind_eq_some_iff] at h ⊢
      obtain ⟨elems, he, rest, hrest, rfl⟩ := h
      have one : ∀ (i : Nat) (y : DataW H × List MemPlace), y ∈ elems ++ rest →
          (w.cells? base (a.add (i * P.cellsOf e)) (P.cellsOf e)).bind (r e) = some y → (w.cells? base (a.add (i * P.cellsOf e)) (P.cellsOf e)).bind (r' e) = some y := by
        intro i y hy hv
        simp only [Option.bind_eq_some_iff] at hv ⊢
        obtain ⟨cs', hc', hy'⟩ := hv
        refine ⟨cs', hc', hr _ hf.1 _ _ hy' (fun p hp => hs p ?_)⟩
        simp only [List.mem_append, List.mem_flatMap]
        right
        exact ⟨y, by simpa using hy, hp⟩
      refine ⟨elems, mapM_carry he (fun i y hi hy => one i y (by simp [hy])), rest, ?_, rfl⟩
      have hrl : rest.length = cap - len := by simpa using mapM_some_length hrest
      by_cases hcl : cap - len = 0
      · rw [hcl] at hrest ⊢
        simp only [List.range_zero, List.mapM_nil] at hrest ⊢
        split
        · exact hrest
        · exact hrest
      · have hsp : sp a.block = true := by
          refine hs (.cell a.block (a.off + 0)) ?_
          simp only [List.mem_append]
          left
          refine MemPlace.mem_row.2 ⟨0, ?_, rfl⟩
          exact Nat.mul_pos (by omega) hf.2
        rw [if_pos hsp]
        exact mapM_carry hrest (fun j y hj hy => one (len + j) y (by simp [hy]))
    · cases h
  case h_9 fs ht =>
    simp only [ht, Bool.and_eq_true] at hf
    split at h
    · rename_i hc
      rw [if_pos hc]
      simp only [Option.map_eq_some_iff] at h ⊢
      obtain ⟨xs, hx, rfl⟩ := h
      exact ⟨xs, mapM_carry hx (fun f y hfm hy hv => hr _ (List.all_eq_true.1 hf.1 f hfm) _ _ hv (fun p hp => hs p (List.mem_flatMap.2 ⟨y, hy, hp⟩))), rfl⟩
    · cases h
  case h_10 n e ht =>
    simp only [ht, Bool.and_eq_true] at hf
    split at h
    · rename_i hc
      rw [if_pos hc]
      simp only [Option.map_eq_some_iff] at h ⊢
      obtain ⟨xs, hx, rfl⟩ := h
      exact ⟨xs, mapM_carry hx (fun f y _ hy hv => hr _ hf.1 _ _ hv (fun p hp => hs p (List.mem_flatMap.2 ⟨y, hy, hp⟩))), rfl⟩
    · cases h
  case h_12 ht => simp only [ht] at hf; cases hf
  case h_14 k e b ht => simp only [ht] at hf; cases hf
  case h_21 => cases h
  all_goals exact h

theorem trod_spare {sp : Nat → Bool} : ∀ (m n : Nat) (t : TypeId), flat P m t = true → ∀ (cs : List Value) (x : DataW H × List MemPlace),
    DataW.trod enc P w base (fun _ => true) held n t cs = some x → (∀ p ∈ x.2, sp p.block = true) → DataW.trod enc P w base sp held n t cs = some x := by
  intro m
  induction m with
  | zero => intro n t hf; cases hf
  | succ m ih =>
    intro n t hf cs x h hs
    cases n with
    | zero => simp [DataW.trod] at h
    | succ n =>
      rw [DataW.trod_step] at h ⊢
      exact trodStep_spare (fun t hf cs x => ih n t hf cs x) hf h hs

/-- what was read reads the same behind a call that turns nothing of what was there -/
theorem trodAll_behind {w' : World} {sp : Nat → Bool} {m : Nat} : ∀ {ts : List TypeId} {vs : List Value} {ds : List (DataW H)} {ps : List MemPlace},
    ts.all (flat P m) = true → DataW.TrodAll enc P w base (fun _ => true) held ts vs ds ps → (∀ p ∈ ps, sp p.block = true) → (∀ p ∈ ps, w.sameAt w' p) → DataW.TrodAll enc P w' base sp held ts vs ds ps
  | [], [], [], _, _, h, _, _ => h
  | _ :: _, _ :: _, _ :: _, _, hf, ⟨p, q, ⟨n, hn⟩, hr, e⟩, h1, h2 => by
    subst e
    simp only [List.all_cons, Bool.and_eq_true] at hf
    refine ⟨p, q, ⟨n, ?_⟩, trodAll_behind hf.2 hr (fun x hx => h1 x (by simp [hx])) (fun x hx => h2 x (by simp [hx])), rfl⟩
    exact DataW.trod_carry n _ _ _ (trod_spare m n _ hf.1 _ _ hn (fun x hx => h1 x (by simp at hx; simp [hx]))) (fun x hx => h2 x (by simp at hx; simp [hx]))
  | [], _ :: _, _, _, _, h, _, _ => h.elim
  | [], [], _ :: _, _, _, h, _, _ => h.elim
  | _ :: _, [], _, _, _, h, _, _ => h.elim
  | _ :: _, _ :: _, [], _, _, h, _, _ => h.elim

end

/-- **What a law's call leaves.** -/
theorem post_law {H : Type} {enc : TypeId × Value → H} {P : Program} {f : Func} {s : ChangeSpec} {apart : Bool} {W W' : World} {args : Array Value} {ds gs : List (DataW H)} {before : List MemPlace} {tb : TypeId}
    {m : Nat} (hf : f.params.toList.all (flat P m) = true) (hW : DataW.Whole enc P f.params.toList s.vars apart W args.toList ds gs before) (hb : Below W.heap.size W W') (hr : f.resultTypes = #[tb]) (hu : P.underlying tb = some .bool)
    (hv : s.vars = []) (h1 : (s.fn H (ds ++ gs)).results = [.lit (.bool true)]) (h2 : (s.fn H (ds ++ gs)).args = ds) (h3 : (s.fn H (ds ++ gs)).vars = []) : s.post enc P f apart true false false W args (.bool true) W' := by
  have hlt := hW.lt
  obtain ⟨p, q, hA, hV, rfl, hfz, hnd⟩ := hW
  have hW2 : DataW.Whole enc P f.params.toList s.vars apart W args.toList ds gs (p ++ q) := ⟨p, q, hA, hV, rfl, hfz, hnd⟩
  refine ⟨ds, gs, p ++ q, [], p, [], hW2, ?_, ?_, ?_, hb.frame _, fun e => by cases e⟩
  · rw [hr, h1]
    exact trodAll_mk1 ⟨1, by simp [DataW.trod, hu, Value.cells]⟩
  · rw [h2]
    exact trodAll_behind hf hA (fun x hx => by simpa using hlt x (by simp [hx])) (fun x hx => hb.same (hlt x (by simp [hx])))
  · rw [hv, h3]
    rfl

/-! ### the world that a row's call finds -/

def Cx.base (w : World) : Cx :=
  { w := w, lv := fun b => match w.heap[b]? with
      | some (.cells c _ _) => c.size
      | _ => 0
    own := fun _ => none, bl := fun _ => none, bg := fun _ => none, rl := fun _ => 0, ep := 0 }

theorem base_enter (w : World) (hl : Laid w (Cx.base w).lv) : Enter (Cx.base w) [] := by
  refine ⟨⟨⟨fun b hb => ?_, fun _ _ => rfl, hl⟩, rfl, fun _ _ => rfl, fun i e hi => by simp [gMem] at hi, fun _ _ => rfl, fun g e hg => by simp [gMem] at hg⟩, fun b who h => by cases h⟩
  have hn : w.heap[b]? = none := Array.getElem?_eq_none hb
  simp only [Cx.base, hn]

/-- **A law's call.** -/
theorem law_calls {P : Program} {f : FuncId} {spec : Spec} (h : COk P f spec) {W : World} {args : Array Value} {as : List AV} {G' : List Ent} (hs : spec as [] = some (.dat (.bool true), G')) (ha : All2 (fun a v => VL (Cx.base W) a v ∧ pclean1 a = true) as args.toList) (hl : Laid W (Cx.base W).lv) (hlt : f < yB := by decide) :
    Calls P f args W fun e W' => e = .returned (.bool true) ∧ Below W.heap.size W W' := by
  obtain ⟨_, hc⟩ := (h (Cx.base W) as [] args _ G' hs (base_enter W hl) ha).1 hlt
  refine hc.mono fun e W' he => ?_
  cases e with
  | panicked ch => exact he.elim
  | outgrown => exact he.elim
  | returned v =>
    obtain ⟨c', rfl, x, _, hr⟩ := he
    obtain ⟨hv, _⟩ := hr
    cases hv with | dat hv => cases hv with | bool =>
    exact ⟨rfl, ⟨x.os, x.tape, x.output, x.size, fun b hb => (x.fo b hb rfl).1⟩⟩

end Go.Eng
end
