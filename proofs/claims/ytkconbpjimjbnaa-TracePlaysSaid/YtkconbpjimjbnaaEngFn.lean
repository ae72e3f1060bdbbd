/- Every function by its own evaluation, to a depth. -/
import Derived.Test.YtkconbpjimjbnaaEngZd


namespace Go.Eng
open Go

noncomputable def orcN (FT : Nat → Option Func) (T : Tab) (K : Nat) (H : Nat → Nat → List Nat) : Nat → Orc
  | 0, _, _, _ => none
  | n + 1, f, args, G => match FT f with
    | some fn => if args.length ≤ fn.ntmps ∧ (fn.name == "runtime.NumGoroutine") = false then execFn T (orcN FT T K H n) K (H f) fn args G else none
    | none => none

theorem orcN_ok {P : Program} {T : Tab} (hT : TabOk P T) {FT : Nat → Option Func} (hF : ∀ f fn, FT f = some fn → P.funcs[f]? = some fn) {K : Nat} {H : Nat → Nat → List Nat} : ∀ n f, COk P f (orcN FT T K H n f)
  | 0, f => fun c xs G vs r G1 h => by simp [orcN] at h
  | n + 1, f => by
    intro c xs G vs r G1 h
    have h0 := h
    simp only [orcN] at h
    split at h
    · rename_i fn hfn
      split at h
      · rename_i hc
        refine cok_of_exec (orc := orcN FT T K H n) (K := K) (H := H f) (spec := fun xs G => if xs.length ≤ fn.ntmps then execFn T (orcN FT T K H n) K (H f) fn xs G else none) hT (orcN_ok (K := K) (H := H) hT hF n) (draw_ok P hT) (hF f fn hfn) hc.2 (fun xs G r hr => ?_) c xs G vs r G1 (by simp only [if_pos hc.1]; exact h)
        try simp only at hr
        split at hr
        · rename_i hl
          exact ⟨hl, K, hr⟩
        · cases hr
      · cases h
    · cases h

end Go.Eng
