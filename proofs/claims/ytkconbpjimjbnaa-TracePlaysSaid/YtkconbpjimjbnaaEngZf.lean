/- The arguments of a row, as the evaluator takes them. -/
import Derived.Test.YtkconbpjimjbnaaEngZe
namespace Go.Eng
open Go Go.RowKit Go.ChangeShapes

def aggT (P : Program) (t : TypeId) : Bool :=
  match P.underlying t with
  | some (.struct _) => true
  | some (.array _ _) => true
  | _ => false

def oneAV : List D → AV
  | [d] => .dat d
  | _ => .dead

/-- an argument -/
def argAV (P : Program) (t : TypeId) (ds : List D) : AV := if aggT P t then .agg (ds.map .dat) else oneAV ds

theorem all2_dat {c : Cx} : ∀ {ds : List D} {cs : List Value}, All2 (fun d v => RD c.w c.lv d v) ds cs → All2 (VL c) (ds.map .dat) cs
  | [], [], _ => trivial
  | _ :: _, _ :: _, h => ⟨.dat h.1, all2_dat h.2⟩
  | [], _ :: _, h => h.elim
  | _ :: _, [], h => h.elim

theorem all_pclean (ds : List D) : (ds.map AV.dat).all pclean = true := by
  induction ds with
  | nil => rfl
  | cons d r ih => simp [pclean, ih]

theorem arg_ok {P : Program} {w : World} {base m : Nat} {t : TypeId} {v : Value} {ds : List D} (hv : Value.okWide P w .any base t v) (hf : flat P m t = true) (h : All2 (RB w) ds v.cells.toList) :
    VL (Cx.base w) (argAV P t ds) v ∧ pclean1 (argAV P t ds) = true := by
  cases m with
  | zero => cases hf
  | succ m =>
    unfold flat at hf
    unfold Value.okWide at hv
    unfold argAV aggT
    have agg : ∀ cs, v = .agg cs → VL (Cx.base w) (.agg (ds.map .dat)) v ∧ pclean1 (.agg (ds.map .dat)) = true := by
      rintro cs rfl
      exact ⟨VL.aggL (all2_dat h), by simp only [pclean1]; exact all_pclean ds⟩
    have one : v.cells = #[v] → VL (Cx.base w) (oneAV ds) v ∧ pclean1 (oneAV ds) = true := by
      intro hc
      rw [hc] at h
      match ds, h with
      | [d], h => exact ⟨.dat h.1, rfl⟩
    split at hf
    all_goals first
      | (cases hf; done)
      | skip
    all_goals
      rename_i ht
      simp only [ht, Bool.false_eq_true, if_false, if_true] at hv ⊢
      first
        | (obtain ⟨cs, hcs, _⟩ := hv
           exact agg cs hcs)
        | (refine one ?_
           cases v <;> first
             | rfl
             | (simp [Cell.okWide, Cell.ok, ht] at hv))

theorem args_ok {H : Type} {enc : TypeId × Value → H} {P : Program} {W : World} {m base : Nat} : ∀ {ts : List TypeId} {vs : List Value} {ds : List (DataW H)} {ps : List MemPlace},
    DataW.TrodAll enc P W 0 (fun _ => true) true ts vs ds ps → (∀ (j : Nat) t v, ts[j]? = some t → vs[j]? = some v → Value.okWide P W .any base t v) → ts.all (flat P m) = true →
      ∃ dss : List (List D), All2 (fun t d => Ty P m t d) ts dss ∧ All2 (fun a v => VL (Cx.base W) a v ∧ pclean1 a = true) (List.zipWith (argAV P) ts dss) vs
  | [], [], [], _, _, _, _ => ⟨[], trivial, trivial⟩
  | t :: ts, v :: vs, d :: ds, _, ⟨p, q, ⟨n, hn⟩, hr, _⟩, hv, hf => by
    simp only [List.all_cons, Bool.and_eq_true] at hf
    obtain ⟨x, h1, h2⟩ := trod_ty m n t _ _ hn hf.1
    obtain ⟨dss, h3, h4⟩ := args_ok hr (fun j t v ht hv' => hv (j + 1) t v (by simpa using ht) (by simpa using hv')) hf.2
    exact ⟨x :: dss, ⟨h2, h3⟩, ⟨arg_ok (hv 0 t v rfl rfl) hf.1 h1, h4⟩⟩
  | [], _ :: _, _, _, h, _, _ => h.elim
  | [], [], _ :: _, _, h, _, _ => h.elim
  | _ :: _, [], _, _, h, _, _ => h.elim
  | _ :: _, _ :: _, [], _, h, _, _ => h.elim

/-- **A law's row, out of its evaluation at all arguments.** -/
theorem law_contract {H : Type} {enc : TypeId × Value → H} {P : Program} {f : FuncId} {fn : Func} {s : ChangeSpec} {apart : Bool} {W : World} {base m : Nat} {args : Array Value} {ds gs : List (DataW H)} {before : List MemPlace} {tb : TypeId}
    (hf : fn.params.toList.all (flat P m) = true)
    (hspec : ∀ dss : List (List D), All2 (fun t d => Ty P m t d) fn.params.toList dss → ∃ spec : Spec, COk P f spec ∧ ∃ G', spec (List.zipWith (argAV P) fn.params.toList dss) [] = some (.dat (.bool true), G'))
    (hval : ∀ (j : Nat) t v, fn.params[j]? = some t → args[j]? = some v → Value.okWide P W .any base t v)
    (hW : DataW.Whole enc P fn.params.toList s.vars apart W args.toList ds gs before) (hr : fn.resultTypes = #[tb]) (hu : P.underlying tb = some .bool)
    (hv : s.vars = []) (h1 : (s.fn H (ds ++ gs)).results = [.lit (.bool true)]) (h2 : (s.fn H (ds ++ gs)).args = ds) (h3 : (s.fn H (ds ++ gs)).vars = []) :
    Calls P f args W fun e W' => ∃ v, e = .returned v ∧ s.post enc P fn apart true false false W args v W' := by
  have hW2 := hW
  obtain ⟨p, q, hA, _⟩ := hW2
  obtain ⟨dss, h4, h5⟩ := args_ok (base := base) hA (fun j t v ht hv => hval j t v (by rw [← Array.getElem?_toList]; exact ht) (by rw [← Array.getElem?_toList]; exact hv)) hf
  obtain ⟨spec, hc, G', hs⟩ := hspec dss h4
  refine (law_calls hc hs h5).mono fun e W' he => ?_
  obtain ⟨rfl, hb⟩ := he
  exact ⟨_, rfl, post_law hf hW hb hr hu hv h1 h2 h3⟩

end Go.Eng
