/- What a function hands back; the contract out of an evaluation. -/
import Derived.Test.YtkconbpjimjbnaaEngZ
namespace Go.Eng
open Go Go.RowKit

/-- one result, as the machine reads it -/
def resultOf (tmps : Array Value) : ResultVar → Sem Value
  | .tmp t => pure (tmps.getD t Go.undef)
  | .cell a t => do loadVar t (← asAddr (tmps.getD a Go.undef))

theorem getD_ok {c : Cx} {ts : List AV} {tmps : Array Value} (h : All2 (VL c) ts tmps.toList) (t : Nat) : VL c (ts.getD t .dead) (tmps.getD t Go.undef) := by
  have := opval_ok (a := ⟨tmps, []⟩) h (.tmp t)
  simpa [opval, Act.eval] using this

theorem resultV_ok {P : Program} {T : Tab} {c : Cx} {st : St} {a : Act} (hT : TabOk P T) (h : Sim c st a) {r : ResultVar} {x : AV} (hr : resultV T st r = some x) : RunsTo P c (resultOf a.tmps r) x := by
  cases r with
  | tmp t =>
    simp only [resultV, Option.some.injEq] at hr
    subst hr
    exact ⟨_, rfl, getD_ok h.tmps t⟩
  | cell ad t =>
    simp only [resultV] at hr
    obtain ⟨v, h1, h2⟩ := load_ok (P := P) hT h.mem hr (getD_ok h.tmps ad)
    refine ⟨v, ?_, h2⟩
    simp only [resultOf]
    generalize a.tmps.getD ad Go.undef = q at h1
    simp only [Instr.loadAt] at h1
    cases q with
    | pointer o =>
      cases o with
      | none => simp [Instr.sureAddr] at h1
      | some p => simpa [Instr.sureAddr, asAddr] using h1
    | _ => simp [Instr.sureAddr] at h1

theorem resultsV_ok {P : Program} {T : Tab} {c : Cx} {st : St} {a : Act} (hT : TabOk P T) (h : Sim c st a) : ∀ (rs : List ResultVar) (as : List AV), resultsV T st rs = some as →
    ∃ vs, (rs.mapM (resultOf a.tmps)).run P c.w = .ok vs c.w ∧ All2 (VL c) as vs
  | [], as, hr => by
    simp only [resultsV, Option.some.injEq] at hr
    subst hr
    exact ⟨[], by simp, trivial⟩
  | r :: rs, as, hr => by
    simp only [resultsV] at hr
    split at hr
    · rename_i x hx
      split at hr
      · rename_i xs hxs
        simp only [Option.some.injEq] at hr
        subst hr
        obtain ⟨v, h1, h2⟩ := resultV_ok (P := P) hT h hx
        obtain ⟨vs, h3, h4⟩ := resultsV_ok hT h rs xs hxs
        exact ⟨v :: vs, by simp [List.mapM_cons, h1, h3], h2, h4⟩
      · cases hr
    · cases hr

theorem back_ok {c : Cx} {m m' : Mem} {a r : AV} {v : Value} (h : back m a = some (r, m')) (hm : MemOk c m) (hv : VL c a v) : ∃ c', Ghost c c' ∧ MemOk c' m' ∧ RL c' r v := by
  have hp : ∀ {r m'}, pass m a = some (r, m') → ∃ c', Ghost c c' ∧ MemOk c' m' ∧ RL c' r v := by
    intro r m' h
    obtain ⟨c', g, k, q1, q2⟩ := pass_ok h hm hv
    refine ⟨c', g, k, ?_⟩
    have hr : rclean r = true := by cases r <;> simp_all [rclean, pclean1, pclean]
    cases r <;> first
      | exact ⟨q1, hr⟩
      | simp [pclean1, pclean] at q2
  unfold back at h
  split at h
  · rename_i f i sz off len
    have own : ∀ {s : Nat} {xs : Row} {md : Mode} {x : Bool}, m.get (.loc i) = some (.row md s xs) → md = (if x then Mode.excl else Mode.own) → s = sz ∧ off = 0 ∧ len = xs.length ∧ f = false →
        ∃ c', Ghost c c' ∧ MemOk c' (m.set (.loc i) .gone) ∧ RL c' (.own x sz xs) v := by
      intro s xs md x hr hmd hc
      obtain ⟨rfl, rfl, rfl, rfl⟩ := hc
      obtain ⟨hi, b, cap, h1, h2, h3, h4, h5⟩ := sh_row hm hv hr
      have hne : md ≠ .ro := by rw [hmd]; cases x <;> simp
      have h3' : RowOk c (.lent i) b cap s xs md := by
        cases md with
        | ro => exact absurd rfl hne
        | own => exact h3
        | excl => exact h3
      obtain ⟨ad, cap', ty, n, rfl, q1, q2, q3, q4, q5, q6⟩ := h5
      have hrow : RowOk c (.lent i) b cap' s xs md := h3'.cap_le q2 q3 (fun ty' n' hn => by
        rw [q1] at hn
        simp only [Option.some.injEq, Prod.mk.injEq] at hn
        rw [← hn.2, ← Nat.zero_add cap']; exact q4)
      refine ⟨c, .refl _, hm.setL hi (.refl _) hm.wf rfl rfl rfl (fun _ _ => .refl _ _) trivial, b, cap', i, ?_, by rw [← hmd]; exact hrow⟩
      rcases q6 with rfl | ⟨_, _, q6, _⟩
      · simp
      · exact absurd rfl q6
    split at h
    · rename_i s xs hr
      split at h
      · rename_i hc
        simp only [Option.some.injEq, Prod.mk.injEq] at h
        obtain ⟨rfl, rfl⟩ := h
        exact own hr rfl hc
      · exact hp h
    · rename_i s xs hr
      split at h
      · rename_i hc
        simp only [Option.some.injEq, Prod.mk.injEq] at h
        obtain ⟨rfl, rfl⟩ := h
        exact own hr rfl hc
      · exact hp h
    · exact hp h
  · exact hp h

theorem finish_ok {P : Program} {T : Tab} {c : Cx} {st : St} {a : Act} (hT : TabOk P T) (h : Sim c st a) {fn : Func} {r : AV} {G : List Ent} (hf : finishK T fn st = some (r, G)) :
    ∃ c' v, (results fn a.tmps).run P c.w = .ok v c.w ∧ Ghost c c' ∧ (∃ m, MemOk c' m ∧ m.G = G) ∧ RL c' r v := by
  have hres : ∀ vs : List Value, (fn.results.toList.mapM (resultOf a.tmps)).run P c.w = .ok vs c.w → (results fn a.tmps).run P c.w = .ok (if h : vs.toArray.size = 1 then vs.toArray[0] else .tuple vs.toArray) c.w := by
    intro vs hvs
    have he : results fn a.tmps = (do
        let vs ← fn.results.mapM (resultOf a.tmps)
        pure (if h : vs.size = 1 then vs[0] else .tuple vs)) := by
      unfold results
      congr 1
    rw [he, Array.mapM_eq_mapM_toList]
    simp only [bind_map_left, Sem.run_bind, hvs, Result.andThen_ok, Sem.run_pure]
  unfold finishK at hf
  split at hf
  · rename_i x hx
    obtain ⟨vs, h1, h2⟩ := resultsV_ok (P := P) hT h _ _ hx
    match vs, h2 with
    | [v], h2 =>
      split at hf
      · rename_i r' m hb
        simp only [Option.some.injEq, Prod.mk.injEq] at hf
        obtain ⟨rfl, rfl⟩ := hf
        obtain ⟨c', g, k, q⟩ := back_ok hb h.mem h2.1
        exact ⟨c', v, by simpa using hres _ h1, g, ⟨m, k, rfl⟩, q⟩
      · cases hf
  · rename_i as hne has
    obtain ⟨vs, h1, h2⟩ := resultsV_ok (P := P) hT h _ _ has
    have hlen : vs.toArray.size ≠ 1 := fun e => by
      have h3 := h2.length
      simp only [List.size_toArray] at e
      rw [e] at h3
      match as, h3 with
      | [x], _ => exact hne x rfl
    split at hf
    · rename_i rs m hp
      simp only [Option.some.injEq, Prod.mk.injEq] at hf
      obtain ⟨rfl, rfl⟩ := hf
      obtain ⟨c', g, k, q⟩ := mapS_pass hp h.mem h2
      refine ⟨c', .tuple vs.toArray, by rw [hres _ h1, dif_neg hlen], g, ⟨m, k, rfl⟩, ?_, ?_⟩
      · exact VL.tupL (q.mono fun a v h => h.1)
      · simp only [rclean, List.all_eq_true]
        intro x hx
        obtain ⟨j, hj⟩ := List.getElem?_of_mem hx
        obtain ⟨_, _, z⟩ := q.get j x hj
        exact z.2
    · cases hf
  · cases hf

/-- what is left of a call's context when it has come to its end -/
def Cx.out (c : Cx) : Cx := { c with bl := fun _ => none, ep := c.ep + 1 }

theorem out_ok {c c' : Cx} {G G' : List Ent} {m : Mem} (he : Enter c G) (x : Far c c') (hm : MemOk c' m) (hG : m.G = G') {r : AV} {v : Value} (hr : RL c' r v) : Back c r G' (.returned v) c'.w := by
  have hbl : ∀ i, c.bl i = none := fun i => he.mem.ln i (.inr (by simp [gMem]))
  have hep : c.ep = 0 := he.mem.ep
  subst hG
  have hext : Ext c c'.out :=
    { os := x.os, tape := x.tape, output := x.output, size := x.size, stay := x.stay, fo := x.fo, sh := x.sh, bg := x.bg, ep := (by rw [hep]; exact Nat.zero_le _)
      bl := (fun i b hb => by rw [hbl i] at hb; cases hb), rl := (fun i b hb => by rw [hbl i] at hb; cases hb), gc := (fun e => by simp [Cx.out, hep] at e) }
  refine ⟨c'.out, rfl, hext,
    ⟨⟨hm.wf.lv, hm.wf.own⟩, rfl, fun _ _ => rfl, fun i e hi => by simp [gMem] at hi, hm.gn, fun g e hg => GOk.cx (c := c') rfl rfl rfl (fun b who _ ho => ho) (hm.g g e hg)⟩, ?_⟩
  cases r with
  | own x sz xs =>
    obtain ⟨b, cap, i, h1, h2⟩ := hr
    exact ⟨b, cap, i, h1, RowOk.cx (c := c') rfl rfl h2.own h2⟩
  | _ => exact ⟨VL.rclean (c := c') rfl rfl rfl hr.2 hr.1, hr.2⟩

/-- **A contract out of an evaluation.** -/
theorem cok_of_exec {P : Program} {T : Tab} {orc : Orc} (hT : TabOk P T) (hO : ∀ f, COk P f (orc f)) (hD : DrawOK P T) {f : FuncId} {fn : Func} (hf : P.funcs[f]? = some fn) (hname : (fn.name == "runtime.NumGoroutine") = false) {K : Nat} {H : Nat → List Nat}
    {spec : Spec} (hs : ∀ as G r, spec as G = some r → as.length ≤ fn.ntmps ∧ ∃ K, execFn T orc K H fn as G = some r) : COk P f spec := by
  intro c as G vs r G' hspec he hv
  obtain ⟨hlen, K, hx⟩ := hs as G _ hspec
  unfold execFn at hx
  split at hx
  · rename_i code hb
    refine ⟨⟨fn, hf, hname, by rw [hb]; rfl⟩, calls_of_wp hf hb ?_⟩
    have hl := hv.length
    simp only [Array.length_toList] at hl
    have hsim : Sim c { tmps := as ++ List.replicate (fn.ntmps - as.length) .undef, mem := gMem G 0 } { tmps := vs ++ Array.replicate (fn.ntmps - vs.size) Go.undef, defers := [] } := by
      refine ⟨he.mem, ?_, rfl⟩
      simp only [Array.toList_append, Array.toList_replicate, hl]
      refine (hv.mono fun a v h => h.1).append (All2.of (by simp) fun j a ha v hv => ?_)
      rw [List.getElem?_replicate] at ha hv
      split at ha
      · rename_i hj
        rw [if_pos hj] at hv
        injection ha with ha
        injection hv with hv
        rw [← ha, ← hv]; exact .undef
      · cases ha
    have fin : ∀ (st : St) (ex : Ex), (ex = .norm ∨ ex = .ret) → exec T orc K H code { tmps := as ++ List.replicate (fn.ntmps - as.length) .undef, mem := gMem G 0 } = some (ex, st) → finishK T fn st = some (r, G') →
        code.wp P (bodyPost P fn (Back c r G')) { tmps := vs ++ Array.replicate (fn.ntmps - vs.size) Go.undef, defers := [] } c.w := by
      intro st ex hex h1 h2
      refine exec_ok hT hO hD code _ ex st c _ h1 hsim fun c' a' x hs' => ?_
      obtain ⟨c2, v, q1, q2, ⟨m, q3, q3'⟩, q4⟩ := finish_ok (P := P) hT hs' h2
      have hback := out_ok he (x.trans q2.ext.far) q3 q3' q4
      rw [q2.w] at hback
      rcases hex with rfl | rfl
      · exact ⟨hs'.defers, v, q1, hback⟩
      · exact ⟨hs'.defers, v, q1, hback⟩
    split at hx
    · rename_i st h1
      exact fin st .norm (.inl rfl) h1 hx
    · rename_i st h1
      exact fin st .ret (.inr rfl) h1 hx
    · cases hx
  · cases hx

end Go.Eng
