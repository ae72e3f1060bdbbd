/- Every function by its own evaluation, to a depth. -/
import Derived.Test.YtkbbgehnooncoaaGreatDoorWp18
import Derived.Test.YtkbbgehnooncoaaGreatDoorWp19
import Derived.Test.YtkbbgehnooncoaaGreatDoorWp6
import Derived.Test.YtkbbgehnooncoaaGreatDoorWp17
import Derived.Below
section
namespace Go.Eng
open Go
variable [Inhabited Pkg]
set_option linter.unusedSectionVars false

noncomputable def orcN (FT : Nat → Option Func) (T : Tab) (K : Nat) (H : Nat → Nat → List Nat) : Nat → Orc
  | 0, _, _, _ => none
  | n + 1, f, args, G => match FT f with
    | some fn => if args.length ≤ fn.ntmps ∧ (fn.name == "runtime.NumGoroutine") = false ∧ f < yB then execFn T (orcN FT T K H n) K (H f) fn args G else none
    | none => none

theorem orcN_ok {P : Program} {T : Tab} (hT : TabOk P T) {FT : Nat → Option Func} (hF : ∀ f fn, FT f = some fn → P.funcs[f]? = some fn) {K : Nat} {H : Nat → Nat → List Nat} : ∀ n f, COk P f (orcN FT T K H n f)
  | 0, f => fun c xs G vs r G1 h => by simp [orcN] at h
  | n + 1, f => by
    intro c xs G vs r G1 h
    have h0 := h
    simp only [orcN] at h
    split at h
    · rename_i fn hfn
      split at h
      · rename_i hc
        refine cok_of_exec (orc := orcN FT T K H n) (K := K) (H := H f) (spec := fun xs G => if xs.length ≤ fn.ntmps then execFn T (orcN FT T K H n) K (H f) fn xs G else none) hT (orcN_ok (K := K) (H := H) hT hF n) (draw_ok P hT) (hF f fn hfn) hc.2.1 (fun xs G r hr => ?_) hc.2.2 c xs G vs r G1 (by simp only [if_pos hc.1]; exact h)
        try simp only at hr
        split at hr
        · rename_i hl
          exact ⟨hl, K, hr⟩
        · cases hr
      · cases h
    · cases h

end Go.Eng
end

/- Callees' trees, one by one. -/
section
namespace Go.Eng
open Go
variable [Inhabited Pkg]
set_option linter.unusedSectionVars false

def tNone : TOrc := fun _ _ _ => .fail

def tCons (n : Nat) (s : List AV → List Ent → Tr (AV × List Ent)) (t : TOrc) : TOrc := fun f a G => if f = n then s a G else t f a G

theorem COk.sub {P : Program} {f : FuncId} {S S' : Spec} (h : COk P f S) (hs : ∀ a G r, S' a G = some r → S a G = some r) : COk P f S' :=
  fun c xs G vs r G1 h1 => h c xs G vs r G1 (hs _ _ _ h1)

theorem COk.nothing {P : Program} {f : FuncId} {S : Spec} (hs : ∀ a G, S a G = none) : COk P f S :=
  fun c xs G vs r G1 h1 => by rw [hs] at h1; cases h1

theorem TOk.nil {P : Program} : TOk P tNone := fun _ => COk.nothing fun _ _ => rfl

theorem TOk.cons {P : Program} {n : Nat} {s : List AV → List Ent → Tr (AV × List Ent)} {t : TOrc} (h : COk P n (fun a G => (s a G).run)) (ht : TOk P t) : TOk P (tCons n s t) := by
  intro f
  by_cases hf : f = n
  · subst hf
    refine h.sub fun a G r hr => ?_
    simpa only [tCons, if_true] using hr
  · refine (ht f).sub fun a G r hr => ?_
    simpa only [tCons, if_neg hf] using hr

theorem COk.spec {P : Program} {f : FuncId} {S : Spec} {B : List AV → List Ent → Type} {out : (a : List AV) → (G : List Ent) → B a G → AV × List Ent} (h : COk P f S) : COk P f (fun a G => (tspec (out a G) (S a G)).run) :=
  h.sub fun _ _ _ hr => tspec_ok hr

end Go.Eng
end

/- Callees inlined, their loops unrolled as far as is plain to see. -/
section
namespace Go.Eng
open Go
variable [Inhabited Pkg]
set_option linter.unusedSectionVars false

/-- a code's loops, unrolled -/
noncomputable def loU (T : Tab) (orc : TOrc) (H : Nat → List Nat) (fuel : Nat) (ls : List Code) (n : Nat) (st : St) : Tr (Ex × St) :=
  match ls with
  | [] => .fail
  | b :: r => if firstRegion b = n then tloU T orc noLo H b fuel st else loU T orc H fuel r n st

theorem loU_at {T : Tab} {orc : TOrc} {H : Nat → List Nat} {fuel : Nat} {st : St} : ∀ {ls : List Code} {b : Code}, nodupN (ls.map firstRegion) = true → b ∈ ls → loU T orc H fuel ls (firstRegion b) st = tloU T orc noLo H b fuel st
  | [], _, _, h => by cases h
  | a :: r, b, hn, h => by
    simp only [List.map_cons, nodupN, Bool.and_eq_true, Bool.not_eq_true'] at hn
    simp only [loU]
    rcases List.mem_cons.1 h with rfl | h
    · rw [if_pos rfl]
    · rw [if_neg (fun e => by
        have : (r.map firstRegion).contains (firstRegion a) = true := by
          rw [e]
          simpa using ⟨b, h, rfl⟩
        rw [this] at hn
        cases hn.1)]
      exact loU_at hn.2 h

/-- callees inlined, n deep; those of base by t0 -/
noncomputable def tinU (FT : Nat → Option Func) (T : Tab) (HS : Nat → Nat → List Nat) (fuel : Nat) (base : List Nat) (t0 : TOrc) : Nat → TOrc
  | 0 => t0
  | n + 1 => fun f a G => if base.contains f then t0 f a G else if yB ≤ f then tyld T (tinU FT T HS fuel base t0 n) (loM fun _ b st => tloU T (tinU FT T HS fuel base t0 n) noLo (HS f) b fuel st) (HS f 3000000) (f - yB) a G else match FT f with
    | some fn => tfnR T (tinU FT T HS fuel base t0 n) (loU T (tinU FT T HS fuel base t0 n) (HS f) fuel (loops (codeOf fn))) (HS f 3000000) fn a G
    | none => .fail

theorem tinU_ok {P : Program} {T : Tab} (hT : TabOk P T) {FT : Nat → Option Func} (hF : ∀ f fn, FT f = some fn → P.funcs[f]? = some fn ∧ (fn.name == "runtime.NumGoroutine") = false ∧ nodupN ((loops (codeOf fn)).map firstRegion) = true)
    {HS : Nat → Nat → List Nat} {fuel : Nat} {base : List Nat} {t0 : TOrc} (h0 : TOk P t0) : ∀ n, TOk P (tinU FT T HS fuel base t0 n)
  | 0 => h0
  | n + 1 => by
    intro f
    have ih := tinU_ok hT hF (HS := HS) (fuel := fuel) (base := base) h0 n
    cases hb : base.contains f with
    | true => exact (h0 f).sub fun a G r hr => by simpa only [tinU, hb, if_true] using hr
    | false =>
      by_cases hy : yB ≤ f
      · have := tok_yld (H := HS f) (lo := loM fun _ b st => tloU T (tinU FT T HS fuel base t0 n) noLo (HS f) b fuel st) hT ih rfl (fun c => LoOk2.M (fun _ b st r h => tloU_ok (fun _ _ _ _ h => h) (LoOk2.no _) h) c) (f - yB)
        rw [show yB + (f - yB) = f from Nat.add_sub_cancel' hy] at this
        exact this.sub fun a G r hr => by simpa only [tinU, hb, hy, Bool.false_eq_true, if_false, if_true] using hr
      cases hf : FT f with
      | none => exact COk.nothing fun a G => by simp only [tinU, hb, hy, hf, Bool.false_eq_true, if_false, Tr.run]
      | some fn =>
        obtain ⟨h1, h2, h3⟩ := hF f fn hf
        refine (tok_fnR (hlt := Nat.lt_of_not_le hy) (H := HS f) (lo := loU T (tinU FT T HS fuel base t0 n) (HS f) fuel (loops (codeOf fn))) hT ih h1 h2 rfl fun c hc => ?_).sub fun a G r hr => by simpa only [tinU, hb, hy, hf, Bool.false_eq_true, if_false] using hr
        refine LoOk2.of c fun b hbm st r h => ?_
        have hcc : codeOf fn = c := by unfold codeOf; rw [hc]; rfl
        rw [hcc, loU_at (by rw [← hcc]; exact h3) hbm] at h
        exact tloU_ok (fun _ _ _ _ h => h) (LoOk2.no _) h

end Go.Eng
end

/- What a call leaves behind that nobody can come to any more is let go. -/
section
namespace Go.Eng
open Go
variable [Inhabited Pkg]
set_option linter.unusedSectionVars false

/-- it names no entity from n on -/
def ref0 (n : Nat) : AV → Bool
  | .ptr (.glob g) _ => decide (g < n)
  | .yld g => decide (g < n)
  | _ => true

def ref1 (n : Nat) : AV → Bool
  | .agg cs => cs.all (ref0 n)
  | .fn _ cs => cs.all (ref0 n)
  | a => ref0 n a

def ref2 (n : Nat) : AV → Bool
  | .tup cs => cs.all (ref1 n)
  | a => ref1 n a

def refE (n : Nat) : Ent → Bool
  | .obj cs => cs.all (ref0 n)
  | .lrec _ ts _ _ _ => ts.all (ref1 n)
  | _ => true

/-- the entities below n, if nothing leads beyond -/
def gcO (n : Nat) : Option (AV × List Ent) → Option (AV × List Ent)
  | some (r, G) => if n ≤ G.length ∧ ref2 n r = true ∧ (G.take n).all (refE n) = true then some (r, G.take n) else none
  | none => none

def Cx.cut (c : Cx) (n : Nat) : Cx := { c with bg := fun g => if g < n then c.bg g else none }

theorem VL.cut0 {c : Cx} {n : Nat} {a : AV} {v : Value} (hp : Eng.pclean a = true) (hr : ref0 n a = true) (h : VL c a v) : VL (c.cut n) a v := by
  cases h with
  | dat h => exact .dat h
  | nilp => exact .nilp
  | nilfn => exact .nilfn
  | nili => exact .nili
  | err t v => exact .err t v
  | ptrg hb => exact .ptrg (by simp only [ref0, decide_eq_true_eq] at hr; simp [Cx.cut, hr, hb])
  | yld hb => exact .yld (by simp only [ref0, decide_eq_true_eq] at hr; simp [Cx.cut, hr, hb])
  | _ => simp [Eng.pclean] at hp

theorem VL.cut1 {c : Cx} {n : Nat} {a : AV} {v : Value} (hp : Eng.pclean1 a = true) (hr : ref1 n a = true) (h : VL c a v) : VL (c.cut n) a v := by
  cases a with
  | agg cs =>
    cases h with
    | agg hl h =>
      simp only [Eng.pclean1, ref1, List.all_eq_true] at hp hr
      exact .agg hl fun j a ha v hv => (h j a ha v hv).cut0 (hp a (List.mem_of_getElem? ha)) (hr a (List.mem_of_getElem? ha))
  | fn f cs =>
    cases h with
    | fn hl h =>
      simp only [Eng.pclean1, ref1, List.all_eq_true] at hp hr
      exact .fn hl fun j a ha v hv => (h j a ha v hv).cut0 (hp a (List.mem_of_getElem? ha)) (hr a (List.mem_of_getElem? ha))
  | _ => exact h.cut0 (by simpa [Eng.pclean1] using hp) (by simpa [ref1] using hr)

theorem VL.cutT {c : Cx} {n : Nat} {a : AV} {v : Value} (hp : Eng.tclean a = true) (hr : ref1 n a = true) (h : VL c a v) : VL (c.cut n) a v := by
  cases a with
  | dead => exact .dead v
  | _ => exact h.cut1 (by simpa [Eng.tclean] using hp) hr

theorem VL.cut2 {c : Cx} {n : Nat} {a : AV} {v : Value} (hp : Eng.rclean a = true) (hr : ref2 n a = true) (h : VL c a v) : VL (c.cut n) a v := by
  cases a with
  | tup cs =>
    cases h with
    | tup hl h =>
      simp only [Eng.rclean, ref2, List.all_eq_true] at hp hr
      exact .tup hl fun j a ha v hv => (h j a ha v hv).cut1 (hp a (List.mem_of_getElem? ha)) (hr a (List.mem_of_getElem? ha))
  | _ => exact h.cut1 (by simpa [Eng.rclean] using hp) (by simpa [ref2] using hr)

theorem CL.cut {c : Cx} {n g j : Nat} {a : AV} {v : Value} (hc : gclean a = true) (hr : ref0 n a = true) (h : CL c g j a v) : CL (c.cut n) g j a v := by
  cases a with
  | rowc m sz xs =>
    obtain ⟨b, cap, h1, h2⟩ := h
    exact ⟨b, cap, h1, RowOk.cx (c := c) rfl rfl h2.own h2⟩
  | dead => exact VL.dead v
  | ptr r off =>
    cases r with
    | loc i => simp [gclean] at hc
    | glob g' => exact VL.cut0 rfl hr (show VL c _ v from h)
  | dat _ => exact VL.cut0 rfl hr (show VL c _ v from h)
  | nilp => exact VL.cut0 rfl hr (show VL c _ v from h)
  | nilfn => exact VL.cut0 rfl hr (show VL c _ v from h)
  | nili => exact VL.cut0 rfl hr (show VL c _ v from h)
  | err => exact VL.cut0 rfl hr (show VL c _ v from h)
  | yld _ => exact VL.cut0 rfl hr (show VL c _ v from h)
  | _ => simp [gclean] at hc

theorem GOk.cut {c : Cx} {n g : Nat} {e : Ent} (hg : g < n) (hr : refE n e = true) (h : GOk c g e) : GOk (c.cut n) g e := by
  have hb : ∀ {b}, c.bg g = some b → (c.cut n).bg g = some b := fun h => by simp [Cx.cut, hg, h]
  cases e with
  | obj cs =>
    obtain ⟨b, cur, ty, h1, h2, h3, h4, h5, h6⟩ := h
    simp only [refE, List.all_eq_true] at hr
    refine ⟨b, cur, ty, hb h1, h2, h3, h4, h5, fun j a ha => ?_⟩
    obtain ⟨q1, v, q2, q3⟩ := h6 j a ha
    exact ⟨q1, v, q2, q3.cut q1 (hr a (List.mem_of_getElem? ha))⟩
  | row => exact h.elim
  | fwd => exact h.elim
  | lrec ls ts ps asg body =>
    obtain ⟨l, r, h1, h2, h3, h4, h5, h6, h7, h8, h9, h10, h11⟩ := h
    simp only [refE, List.all_eq_true] at hr
    refine ⟨l, r, hb h1, h2, h3, h4, h5, h6, h7, h8, h9, h10, fun j a ha => ?_⟩
    obtain ⟨k1, v, k2, k3⟩ := h11 j a ha
    exact ⟨k1, v, k2, k3.cutT k1 (hr a (List.mem_of_getElem? ha))⟩
  | gone =>
    obtain ⟨b, h1, h2⟩ := h
    exact ⟨b, hb h1, h2⟩

theorem COk.gc {P : Program} {f : FuncId} {S : Spec} (h : COk P f S) : COk P f (fun a G => gcO G.length (S a G)) := by
  intro c as G vs r G' hs he hv
  replace hs : gcO G.length (S as G) = some (r, G') := hs
  cases hS : S as G with
  | none => rw [hS] at hs; cases hs
  | some p =>
    obtain ⟨r0, G0⟩ := p
    rw [hS] at hs
    simp only [gcO] at hs
    split at hs
    case isFalse => cases hs
    rename_i hc
    obtain ⟨hn, hr, hG⟩ := hc
    simp only [Option.some.injEq, Prod.mk.injEq] at hs
    obtain ⟨rfl, rfl⟩ := hs
    refine (h c as G vs r0 G0 hS he hv).mono rfl (fun _ _ h => h) fun e w' hb => ?_
    cases e with
    | panicked ch => exact hb.elim
    | outgrown => exact hb.elim
    | returned v =>
      obtain ⟨c', hw, x, hm, hres⟩ := hb
      refine ⟨c'.cut G.length, hw, { x with bg := fun g b hg => ?_ }, ⟨⟨hm.wf.lv, hm.wf.own, hm.wf.pk⟩, rfl, fun i _ => hm.ln i (.inr (by simp [gMem])), fun i e hi => by simp [gMem] at hi, fun g hg => ?_, fun g e hg => ?_⟩, ?_⟩
      · have hlt : g < G.length := by
          rcases Nat.lt_or_ge g G.length with h | h
          · exact h
          · rw [he.mem.gn g h] at hg; cases hg
        simp [Cx.cut, hlt, x.bg g b hg]
      · simp only [gMem, List.length_take] at hg
        have : ¬ g < G.length := by omega
        simp [Cx.cut, this]
      · simp only [gMem] at hg
        rw [List.getElem?_take] at hg
        split at hg
        · rename_i hlt
          have hmem : e ∈ G0.take G.length := List.mem_of_getElem? (i := g) (by rw [List.getElem?_take, if_pos hlt]; exact hg)
          exact (hm.g g e hg).cut hlt (List.all_eq_true.1 hG e hmem)
        · cases hg
      · unfold RL at hres ⊢
        cases r0 with
        | own y sz xs =>
          obtain ⟨b, cap, i, h1, h2⟩ := hres
          exact ⟨b, cap, i, h1, RowOk.cx (c := c') rfl rfl h2.own h2⟩
        | _ => exact ⟨hres.1.cut2 hres.2 hr, hres.2⟩

/-! ### a function that neither takes nor gives what is everybody's -/

/-- it names no entity at all -/
def nor0 : AV → Bool
  | .ptr (.glob _) _ => false
  | .yld _ => false
  | _ => true

def nor1 : AV → Bool
  | .agg cs => cs.all nor0
  | .fn _ cs => cs.all nor0
  | a => nor0 a

def nor2 : AV → Bool
  | .tup cs => cs.all nor1
  | a => nor1 a

theorem VL.nor0 {c c' : Cx} {a : AV} {v : Value} (hw : c'.w = c.w) (hl : c'.lv = c.lv) (hp : Eng.pclean a = true) (hr : Eng.nor0 a = true) (h : VL c a v) : VL c' a v := by
  cases h with
  | dat h => exact .dat (by rw [hw, hl]; exact h)
  | nilp => exact .nilp
  | nilfn => exact .nilfn
  | nili => exact .nili
  | err t v => exact .err t v
  | ptrg hb => simp [Eng.nor0] at hr
  | yld hb => simp [Eng.nor0] at hr
  | _ => simp [Eng.pclean] at hp

theorem VL.nor1 {c c' : Cx} {a : AV} {v : Value} (hw : c'.w = c.w) (hl : c'.lv = c.lv) (hp : Eng.pclean1 a = true) (hr : Eng.nor1 a = true) (h : VL c a v) : VL c' a v := by
  cases a with
  | agg cs =>
    cases h with
    | agg hl' h =>
      simp only [Eng.pclean1, Eng.nor1, List.all_eq_true] at hp hr
      exact .agg hl' fun j a ha v hv => (h j a ha v hv).nor0 hw hl (hp a (List.mem_of_getElem? ha)) (hr a (List.mem_of_getElem? ha))
  | fn f cs =>
    cases h with
    | fn hl' h =>
      simp only [Eng.pclean1, Eng.nor1, List.all_eq_true] at hp hr
      exact .fn hl' fun j a ha v hv => (h j a ha v hv).nor0 hw hl (hp a (List.mem_of_getElem? ha)) (hr a (List.mem_of_getElem? ha))
  | _ => exact h.nor0 hw hl (by simpa [Eng.pclean1] using hp) (by simpa [Eng.nor1] using hr)

theorem VL.nor2 {c c' : Cx} {a : AV} {v : Value} (hw : c'.w = c.w) (hl : c'.lv = c.lv) (hp : Eng.rclean a = true) (hr : Eng.nor2 a = true) (h : VL c a v) : VL c' a v := by
  cases a with
  | tup cs =>
    cases h with
    | tup hl' h =>
      simp only [Eng.rclean, Eng.nor2, List.all_eq_true] at hp hr
      exact .tup hl' fun j a ha v hv => (h j a ha v hv).nor1 hw hl (hp a (List.mem_of_getElem? ha)) (hr a (List.mem_of_getElem? ha))
  | _ => exact h.nor1 hw hl (by simpa [Eng.rclean] using hp) (by simpa [Eng.nor2] using hr)

/-- a context in which nothing is everybody's -/
def Cx.hide (c : Cx) : Cx := { c with own := fun _ => none, bl := fun _ => none, bg := fun _ => none, ep := 0 }

/-- behind a call that saw nothing of everybody's -/
def Cx.shown (c c2 : Cx) : Cx :=
  { c with
    w := c2.w
    lv := c2.lv
    own := fun b => match c.own b with
      | some who => some who
      | none => c2.own b
    bl := fun _ => none
    ep := c.ep + 1 }

/-- the spec of such a function, out of its evaluation among nothing -/
noncomputable def pureS (S : Spec) : Spec := fun a G =>
  if a.all nor1 = true then match S a [] with
    | some (r, _) => if nor2 r = true then some (r, G) else none
    | none => none
  else none

theorem COk.pure {P : Program} {f : FuncId} {S : Spec} (h : COk P f S) (hlt : f < yB := by decide) : COk P f (pureS S) := by
  intro c as G vs r G' hs he hv
  unfold pureS at hs
  split at hs
  case isFalse => cases hs
  rename_i hna
  split at hs
  case h_2 => cases hs
  rename_i r0 G0 hS
  split at hs
  case isFalse => cases hs
  rename_i hnr
  simp only [Option.some.injEq, Prod.mk.injEq] at hs
  obtain ⟨rfl, rfl⟩ := hs
  have hen : Enter c.hide [] := ⟨⟨⟨he.mem.wf.lv, fun _ _ => rfl, he.mem.wf.pk⟩, rfl, fun _ _ => rfl, fun i e hi => by simp [gMem] at hi, fun _ _ => rfl, fun g e hg => by simp [gMem] at hg⟩, fun b who hb => by cases hb⟩
  have hv' : All2 (fun a v => VL c.hide a v ∧ pclean1 a = true) as vs.toList := by
    refine All2.of hv.length fun j a ha v hvj => ?_
    obtain ⟨v', q1, q2, q3⟩ := hv.get j a ha
    rw [hvj] at q1
    injection q1 with q1
    rw [q1]
    exact ⟨VL.nor1 (c := c) (c' := c.hide) rfl rfl q3 (List.all_eq_true.1 hna a (List.mem_of_getElem? ha)) q2, q3⟩
  have hr := (h c.hide as [] vs r0 G0 hS hen hv').1 hlt
  refine .func hlt ⟨hr.1, hr.2.mono fun e w' hb => ?_⟩
  cases e with
  | panicked ch => exact hb.elim
  | outgrown => exact hb.elim
  | returned v =>
    obtain ⟨c2, hw, x, hm2, hres⟩ := hb
    have hfo : ∀ b, b < c.w.heap.size → c2.w.heap[b]? = c.w.heap[b]? ∧ c2.own b = none ∧ c2.lv b = c.lv b := fun b hb => x.fo b hb rfl
    have hbl : ∀ i, c.bl i = none := fun i => he.mem.ln i (.inr (by simp [gMem]))
    have hx : Ext c (c.shown c2) := by
      refine ⟨x.os, x.tape, x.output, x.size, x.stay, fun b hb hn => ?_, x.sh, fun i b hb => (by rw [hbl i] at hb; cases hb), fun _ _ h => h, fun i b hb => (by rw [hbl i] at hb; cases hb), Nat.le_succ _, fun e => absurd e (Nat.succ_ne_self _)⟩
      obtain ⟨q1, q2, q3⟩ := hfo b hb
      exact ⟨q1, by simp only [Cx.shown, hn]; exact q2, q3⟩
    have hwf : WF (c.shown c2) := by
      refine ⟨hm2.wf.lv, fun b hb => ?_, hm2.wf.pk⟩
      have hb' : c.w.heap.size ≤ b := Nat.le_trans x.size hb
      simp only [Cx.shown, he.mem.wf.own b hb']
      exact hm2.wf.own b hb
    have hsame : ∀ who, Same c (c.shown c2) who := fun who b hb => by
      obtain ⟨q1, _, q3⟩ := hfo b (MemOk.lt_own he.mem.wf hb)
      exact ⟨q1, by simp only [Cx.shown, hb], q3⟩
    refine ⟨c.shown c2, hw, hx, ⟨hwf, rfl, fun _ _ => rfl, fun i e hi => by simp [gMem] at hi, fun g hg => he.mem.gn g hg, fun g e hg => (he.mem.g g e hg).frame hx (hsame _) (fun _ => hsame _)⟩, ?_⟩
    unfold RL at hres ⊢
    cases r0 with
    | own y sz xs =>
      obtain ⟨b, cap, i, h1, h2⟩ := hres
      refine ⟨b, cap, i, h1, RowOk.cx (c := c2) rfl rfl ?_ h2⟩
      have hcb : c.own b = none := by
        cases ho : c.own b with
        | none => rfl
        | some who =>
          have := (hfo b (MemOk.lt_own he.mem.wf ho)).2.1
          rw [h2.own] at this
          cases this
      simp only [Cx.shown, hcb]
      exact h2.own
    | _ => exact ⟨VL.nor2 (c := c2) (c' := c.shown c2) rfl rfl hres.2 hnr hres.1, hres.2⟩

/-- with what is left behind let go -/
noncomputable def gcS (S : Spec) : Spec := fun a G => gcO G.length (S a G)

end Go.Eng
end

/- Every function by its own evaluation, to a depth, ranges over functions too. -/
section
namespace Go.Eng
open Go
variable [Inhabited Pkg]
set_option linter.unusedSectionVars false

noncomputable def orcY (FT : Nat → Option Func) (T : Tab) (K : Nat) (H : Nat → Nat → List Nat) (base : List Nat) (t0 : Orc) : Nat → Orc
  | 0, _, _, _ => none
  | n + 1, f, args, G => if base.contains f then t0 f args G else if yB ≤ f then roundK T (orcY FT T K H base t0 n) K (H f) (f - yB) args G else match FT f with
    | some fn => if args.length ≤ fn.ntmps ∧ (fn.name == "runtime.NumGoroutine") = false then execFn T (orcY FT T K H base t0 n) K (H f) fn args G else none
    | none => none

theorem orcY_ok {P : Program} {T : Tab} (hT : TabOk P T) {FT : Nat → Option Func} (hF : ∀ f fn, FT f = some fn → P.funcs[f]? = some fn) {K : Nat} {H : Nat → Nat → List Nat} {base : List Nat} {t0 : Orc} (h0 : ∀ f, COk P f (t0 f)) : ∀ n f, COk P f (orcY FT T K H base t0 n f)
  | 0, f => fun c xs G vs r G1 h => by simp [orcY] at h
  | n + 1, f => by
    cases hbs : base.contains f with
    | true => exact (fun c xs G vs r G1 h => h0 f c xs G vs r G1 (by simpa only [orcY, hbs, if_true] using h))
    | false =>
    by_cases hy : yB ≤ f
    · have := round_ok (P := P) (T := T) (orc := orcY FT T K H base t0 n) hT (orcY_ok (K := K) (H := H) hT hF h0 n) (draw_ok P hT) (K := K) (H := H f) (f - yB) (spec := orcY FT T K H base t0 (n + 1) f) (fun as G r hr => ⟨K, by simpa only [orcY, hbs, hy, Bool.false_eq_true, if_false, if_true] using hr⟩)
      rw [show yB + (f - yB) = f from Nat.add_sub_cancel' hy] at this
      exact this
    · intro c xs G vs r G1 h
      have h00 := h
      simp only [orcY, hbs, hy, Bool.false_eq_true, if_false] at h
      split at h
      · rename_i fn hfn
        split at h
        · rename_i hc
          refine cok_of_exec (orc := orcY FT T K H base t0 n) (K := K) (H := H f) (spec := fun xs G => if xs.length ≤ fn.ntmps then execFn T (orcY FT T K H base t0 n) K (H f) fn xs G else none) hT (orcY_ok (K := K) (H := H) hT hF h0 n) (draw_ok P hT) (hF f fn hfn) hc.2 (fun xs G r hr => ?_) (Nat.lt_of_not_le hy) c xs G vs r G1 (by simp only [if_pos hc.1]; exact h)
          try simp only at hr
          split at hr
          · rename_i hl
            exact ⟨hl, K, hr⟩
          · cases hr
        · cases h
      · cases h

end Go.Eng
end

/- Contracts of the library's shelf: a function that touches nothing of what was there, and gives back plain data. -/
section
namespace Go.Eng
open Go
variable [Inhabited Pkg]
set_option linter.unusedSectionVars false

/-- a world with new blocks alone, seen as the old one -/
def Cx.at (c : Cx) (w : World) : Cx := { c with w := w }

theorem Cx.at_ext {c : Cx} {w : World} (wf : WF c) (h : RowKit.Below c.w.heap.size c.w w) : Ext c (c.at w) := by
  have hb : ∀ b, b < c.w.heap.size → w.heap[b]? = c.w.heap[b]? := h.block
  have hcell : ∀ b j v, c.w.cell? ⟨b, j, none⟩ = some v → w.cell? ⟨b, j, none⟩ = some v := by
    intro b j v hv
    rcases Nat.lt_or_ge b c.w.heap.size with h1 | h1
    · simp only [World.cell?, hb b h1]
      simpa only [World.cell?] using hv
    · have h2 : c.w.heap[b]? = none := Array.getElem?_eq_none h1
      simp only [World.cell?, h2] at hv
      cases hv
  refine ⟨h.os, h.tape, h.output, h.size, ⟨fun b o ho => ?_, fun b => Nat.le_refl _⟩, fun b hb' hn => ⟨hb b hb', hn, rfl⟩, fun b s hs => ?_, fun _ _ h => h, fun _ _ h => h, fun _ _ _ => rfl, Nat.le_refl _, fun _ g b j v _ hv => hcell b j v hv⟩
  · rcases Nat.lt_or_ge b c.w.heap.size with h1 | h1
    · show w.cell? ⟨b, o, none⟩ = _
      simp only [World.cell?, hb b h1]
    · have := wf.lv b h1
      omega
  · rcases Nat.lt_or_ge b c.w.heap.size with h1 | h1
    · show w.shape? b = _
      simp only [World.shape?, hb b h1]
      simpa only [World.shape?] using hs
    · have h2 : c.w.heap[b]? = none := Array.getElem?_eq_none h1
      simp only [World.shape?, h2] at hs
      cases hs

/-- out of a contract of the shelf -/
theorem COk.below {P : Program} {f : FuncId} {S : Spec} (hf : Enters P f)
    (h : ∀ (c : Cx) (as : List AV) (G : List Ent) (vs : Array Value) (r : AV) (G' : List Ent), S as G = some (r, G') → All2 (fun a v => VL c a v ∧ pclean1 a = true) as vs.toList →
      G' = G ∧ ∃ d v, r = .dat d ∧ (∀ w lv, RD w lv d v) ∧ Calls P f vs c.w fun e w' => e = .returned v ∧ RowKit.Below c.w.heap.size c.w w') (hlt : f < yB := by decide) : COk P f S := by
  intro c as G vs r G' hs he hv
  obtain ⟨rfl, d, v, rfl, hrd, hc⟩ := h c as G vs r G' hs hv
  refine .func hlt ⟨hf, hc.mono fun e w' hb => ?_⟩
  obtain ⟨rfl, hbe⟩ := hb
  have hx := Cx.at_ext he.mem.wf hbe
  have hsame : ∀ who, Same c (c.at w') who := fun who b hb => ⟨hbe.block b (MemOk.lt_own he.mem.wf hb), hb, rfl⟩
  refine ⟨c.at w', rfl, hx, ⟨⟨fun b hb => he.mem.wf.lv b (Nat.le_trans hbe.size hb), fun b hb => he.mem.wf.own b (Nat.le_trans hbe.size hb), he.mem.wf.pk.stay hx.stay hx.sh⟩, rfl, fun i hi => he.mem.ln i hi, fun i e hi => by simp [gMem] at hi, fun g hg => he.mem.gn g hg, fun g e hg => (he.mem.g g e hg).frame hx (hsame _) (fun _ => hsame _)⟩, ?_⟩
  exact ⟨.dat (hrd _ _), rfl⟩

/-- so too where several values, or no error, come back -/
theorem COk.belowV {P : Program} {f : FuncId} {S : Spec} (hf : Enters P f)
    (h : ∀ (c : Cx) (as : List AV) (G : List Ent) (vs : Array Value) (r : AV) (G' : List Ent), S as G = some (r, G') → MemOk c (gMem G 0) → All2 (fun a v => VL c a v ∧ pclean1 a = true) as vs.toList →
      G' = G ∧ rclean r = true ∧ (∀ x sz xs, r ≠ .own x sz xs) ∧ ∃ v, (∀ c', VL c' r v) ∧ Calls P f vs c.w fun e w' => e = .returned v ∧ RowKit.Below c.w.heap.size c.w w') (hlt : f < yB := by decide) : COk P f S := by
  intro c as G vs r G' hs he hv
  obtain ⟨rfl, hrc, hno, v, hvl, hc⟩ := h c as G vs r G' hs he.mem hv
  refine .func hlt ⟨hf, hc.mono fun e w' hb => ?_⟩
  obtain ⟨rfl, hbe⟩ := hb
  have hx := Cx.at_ext he.mem.wf hbe
  have hsame : ∀ who, Same c (c.at w') who := fun who b hb => ⟨hbe.block b (MemOk.lt_own he.mem.wf hb), hb, rfl⟩
  refine ⟨c.at w', rfl, hx, ⟨⟨fun b hb => he.mem.wf.lv b (Nat.le_trans hbe.size hb), fun b hb => he.mem.wf.own b (Nat.le_trans hbe.size hb), he.mem.wf.pk.stay hx.stay hx.sh⟩, rfl, fun i hi => he.mem.ln i hi, fun i e hi => by simp [gMem] at hi, fun g hg => he.mem.gn g hg, fun g e hg => (he.mem.g g e hg).frame hx (hsame _) (fun _ => hsame _)⟩, ?_⟩
  unfold RL
  cases r with
  | own x sz xs => exact absurd rfl (hno x sz xs)
  | _ => exact ⟨hvl _, hrc⟩

/-- what strings and numbers stand for -/
theorem VL.str_inv {c : Cx} {s : ByteArray} {v : Value} (h : VL c (.dat (.str s)) v) : v = .string s := by
  cases h with
  | dat h => cases h; rfl
theorem VL.int_inv {c : Cx} {k : IntKind} {n : Int} {v : Value} (h : VL c (.dat (.int k n)) v) : v = .int k n := by
  cases h with
  | dat h => cases h; rfl
theorem args_one {c : Cx} {a : AV} {vs : Array Value} (h : All2 (fun a v => VL c a v ∧ pclean1 a = true) [a] vs.toList) : ∃ v, vs = #[v] ∧ VL c a v := by
  obtain ⟨l⟩ := vs
  match l, h with
  | [v], h => exact ⟨v, rfl, h.1.1⟩
  | [], h => exact h.elim
  | _ :: _ :: _, h => exact h.2.elim
theorem args_two {c : Cx} {a b : AV} {vs : Array Value} (h : All2 (fun a v => VL c a v ∧ pclean1 a = true) [a, b] vs.toList) : ∃ v u, vs = #[v, u] ∧ VL c a v ∧ VL c b u := by
  obtain ⟨l⟩ := vs
  match l, h with
  | [v, u], h => exact ⟨v, u, rfl, h.1.1, h.2.1.1⟩
  | [], h => exact h.elim
  | [_], h => exact h.2.elim
  | _ :: _ :: _ :: _, h => exact h.2.2.elim

end Go.Eng
end

/- What the arguments of a row read as: data of their types. -/
section
namespace Go.Eng
open Go Go.RowKit Go.ChangeShapes
variable [Inhabited Pkg]
set_option linter.unusedSectionVars false

def TyFs (ty : TypeId → List D → Prop) : List Field → List D → Prop
  | [], ds => ds = []
  | f :: r, ds => ∃ p q, ds = p ++ q ∧ ty f.type p ∧ TyFs ty r q

/-- cells of a type, as data -/
def Ty (P : Program) : Nat → TypeId → List D → Prop
  | 0, _, _ => False
  | n + 1, t, ds => match P.underlying t with
    | some .bool => ∃ b, ds = [.bool b]
    | some (.int k) => ∃ z, ds = [.int k z] ∧ (Lit.int k z).wf = true
    | some .string => ∃ s, ds = [.str s] ∧ s.size ≤ maxLen
    | some (.slice e) => ∃ k xs, ds = [.list k (P.cellsOf e) xs] ∧ (∀ x ∈ xs, Ty P n e x) ∧ xs.length ≤ maxLen ∧ (k = .nil → xs = [])
    | some (.struct fs) => TyFs (Ty P n) fs.toList ds
    | some (.array m e) => ∃ parts : List (List D), parts.length = m ∧ ds = parts.flatten ∧ ∀ p ∈ parts, Ty P n e p
    | _ => False

theorem cell_spot {w : World} {a : Addr} {v : Value} (h : w.cell? a = some v) : a.spot = none := by
  obtain ⟨b, o, sp⟩ := a
  cases sp with
  | none => rfl
  | some s =>
    simp only [World.cell?] at h
    split at h
    · simp at h
    · cases h

section
variable {H : Type} {enc : TypeId × Value → H} {P : Program} {w : World} {held : Bool}

abbrev RB (w : World) (d : D) (v : Value) : Prop := RD w (Cx.base w).lv d v

theorem mapM_at {α β : Type} {f : α → Option β} : ∀ {l : List α} {r : List β}, l.mapM f = some r → ∀ (i : Nat) (x : α), l[i]? = some x → ∃ y, r[i]? = some y ∧ f x = some y
  | [], r, h, i, x, hx => by simp at hx
  | a :: l, r, h, i, x, hx => by
    rw [List.mapM_cons] at h
    cases ha : f a with
    | none => rw [ha] at h; cases h
    | some y =>
      rw [ha] at h
      cases hl : l.mapM f with
      | none => rw [hl] at h; cases h
      | some ys =>
        rw [hl] at h
        have h : y :: ys = r := by simpa using h
        subst h
        cases i with
        | zero =>
          simp only [List.getElem?_cons_zero, Option.some.injEq] at hx
          subst hx
          exact ⟨y, rfl, ha⟩
        | succ i =>
          obtain ⟨z, h1, h2⟩ := mapM_at hl i x (by simpa using hx)
          exact ⟨z, by simpa using h1, h2⟩

theorem fields_ty {n m : Nat} (ih : ∀ (n : Nat) (t : TypeId) (cs : List Value) (x : DataW H × List MemPlace), DataW.trod enc P w 0 (fun _ => true) held n t cs = some x → flat P m t = true → ∃ ds, All2 (RB w) ds cs ∧ Ty P m t ds) {cs : List Value} :
    ∀ (fs : List Field) (off : Nat) (xs : List (DataW H × List MemPlace)), fs.mapM (fun f => DataW.trod enc P w 0 (fun _ => true) held n f.type ((cs.drop f.offset).take (P.cellsOf f.type))) = some xs →
      tile P off fs = some cs.length → (fs.all fun f => flat P m f.type) = true → ∃ ds, All2 (RB w) ds (cs.drop off) ∧ TyFs (Ty P m) fs ds
  | [], off, xs, _, ht, _ => by
    simp only [tile, Option.some.injEq] at ht
    subst ht
    exact ⟨[], by simp [All2], rfl⟩
  | f :: r, off, xs, h, ht, hf => by
    simp only [tile] at ht
    split at ht
    · rename_i hoff
      subst hoff
      rw [List.mapM_cons] at h
      simp only [List.all_cons, Bool.and_eq_true] at hf
      cases ha : DataW.trod enc P w 0 (fun _ => true) held n f.type ((cs.drop f.offset).take (P.cellsOf f.type)) with
      | none => rw [ha] at h; cases h
      | some y =>
        rw [ha] at h
        cases hl : r.mapM (fun f => DataW.trod enc P w 0 (fun _ => true) held n f.type ((cs.drop f.offset).take (P.cellsOf f.type))) with
        | none => rw [hl] at h; cases h
        | some ys =>
          obtain ⟨p, p1, p2⟩ := ih _ _ _ _ ha hf.1
          obtain ⟨q, q1, q2⟩ := fields_ty ih r _ ys hl ht hf.2
          refine ⟨p ++ q, ?_, p, q, rfl, p2, q2⟩
          have := p1.append q1
          rw [← List.drop_drop, List.take_append_drop] at this
          exact this
    · cases ht

theorem all2_flatten : ∀ (parts : List (List D)) (k : Nat) (cs : List Value), cs.length = parts.length * k → (∀ (i : Nat) (p : List D), parts[i]? = some p → All2 (RB w) p ((cs.drop (i * k)).take k)) → All2 (RB w) parts.flatten cs
  | [], k, cs, h, _ => by
    have : cs = [] := by simpa using h
    subst this
    trivial
  | p :: r, k, cs, h, hp => by
    have h0 := hp 0 p rfl
    simp only [Nat.zero_mul, List.drop_zero] at h0
    have := all2_flatten r k (cs.drop k) (by simp only [List.length_drop, List.length_cons] at h ⊢; rw [h, Nat.add_mul]; omega) fun i q hq => by
      have := hp (i + 1) q (by simpa using hq)
      rw [List.drop_drop]
      rw [Nat.add_mul, Nat.one_mul] at this
      rw [Nat.add_comm k]
      exact this
    have h2 := h0.append this
    rw [List.take_append_drop] at h2
    exact h2

theorem trod_ty : ∀ (m n : Nat) (t : TypeId) (cs : List Value) (x : DataW H × List MemPlace), DataW.trod enc P w 0 (fun _ => true) held n t cs = some x → flat P m t = true → ∃ ds, All2 (RB w) ds cs ∧ Ty P m t ds := by
  intro m
  induction m with
  | zero => intro n t cs x _ h; cases h
  | succ m ih =>
    intro n t cs x h hf
    cases n with
    | zero => simp [DataW.trod] at h
    | succ n =>
      unfold DataW.trod at h
      unfold flat at hf
      split at h
      case h_1 b ht => exact ⟨[.bool b], ⟨.bool b, trivial⟩, by simp only [Ty, ht]; exact ⟨b, rfl⟩⟩
      case h_2 k k' z ht =>
        split at h
        · rename_i hc
          obtain ⟨rfl, hw⟩ := hc
          exact ⟨[.int k' z], ⟨.int _ z, trivial⟩, by simp only [Ty, ht]; exact ⟨z, rfl, hw⟩⟩
        · cases h
      case h_4 s ht =>
        split at h
        · rename_i hc
          exact ⟨[.str s], ⟨.str s, trivial⟩, by simp only [Ty, ht]; exact ⟨s, rfl, hc⟩⟩
        · cases h
      case h_7 e ht =>
        exact ⟨[.list .nil (P.cellsOf e) []], ⟨.nil _, trivial⟩, by simp only [Ty, ht]; exact ⟨.nil, [], rfl, by simp, by simp, fun _ => rfl⟩⟩
      case h_8 e a len cap ht =>
        rw [ht] at hf
        simp only [Bool.and_eq_true, decide_eq_true_eq] at hf
        simp only at h
        obtain ⟨hf, hpos⟩ := hf
        split at h
        · rename_i hc
          simp only [if_true, Option.map_eq_some_iff, Option.bind_eq_some_iff] at h
          obtain ⟨elems, he, rest, hrest, rfl⟩ := h
          have hel : elems.length = len := by simpa using mapM_some_length he
          -- an element's cells
          have cells : ∀ (i : Nat) (y : DataW H × List MemPlace), (w.cells? 0 (a.add (i * P.cellsOf e)) (P.cellsOf e)).bind (DataW.trod enc P w 0 (fun _ => true) held n e) = some y →
              a.spot = none ∨ i ≠ 0 := fun i y hy => by
            by_cases hi : i = 0
            · left
              subst hi
              obtain ⟨cs', hcs, _⟩ := Option.bind_eq_some_iff.1 hy
              unfold World.cells? at hcs
              split at hcs
              · obtain ⟨v, _, hv⟩ := mapM_at hcs 0 0 (by simp [hpos])
                have := cell_spot hv
                simpa [Addr.add] using this
              · cases hcs
            · exact .inr hi
          by_cases hcap : cap = 0
          · have hl0 : len = 0 := by omega
            subst hcap hl0
            exact ⟨[.list .any (P.cellsOf e) []], ⟨.void _ _ (by simp), trivial⟩, by simp only [Ty, ht]; exact ⟨.any, [], rfl, by simp, by simp, fun h => by cases h⟩⟩
          · have hspot : a.spot = none := by
              by_cases hl0 : len = 0
              · have h0 : (List.range (cap - len))[0]? = some 0 := by rw [List.getElem?_range (by omega)]
                obtain ⟨y, _, hy⟩ := mapM_at hrest 0 0 h0
                rcases cells _ y hy with h | h
                · exact h
                · omega
              · have h0 : (List.range len)[0]? = some 0 := by rw [List.getElem?_range (by omega)]
                obtain ⟨y, _, hy⟩ := mapM_at he 0 0 h0
                rcases cells _ y hy with h | h
                · exact h
                · omega
            obtain ⟨b, o, sp⟩ := a
            simp only at hspot
            subst hspot
            -- the elements as data
            have elem : ∀ i, i < len → ∃ (cs' : List Value) (ds : List D), cs'.length = P.cellsOf e ∧ (∀ j v, cs'[j]? = some v → w.cell? ⟨b, o + (i * P.cellsOf e + j), none⟩ = some v) ∧ All2 (RB w) ds cs' ∧ Ty P m e ds := by
              intro i hi
              obtain ⟨y, _, hy⟩ := mapM_at he i i (List.getElem?_range hi)
              obtain ⟨cs', hcs, hy'⟩ := Option.bind_eq_some_iff.1 hy
              obtain ⟨ds, h1, h2⟩ := ih n e cs' y hy' hf
              unfold World.cells? at hcs
              split at hcs
              · have hl : cs'.length = P.cellsOf e := by simpa using mapM_some_length hcs
                refine ⟨cs', ds, hl, fun j v hj => ?_, h1, h2⟩
                have hjl := (List.getElem?_eq_some_iff.1 hj).1
                obtain ⟨v', q1, q2⟩ := mapM_at hcs j j (List.getElem?_range (by omega))
                rw [hj] at q1
                injection q1 with q1
                subst q1
                rw [add_off, add_off] at q2
                rw [← q2]
                congr 2
                omega
              · cases hcs
            -- chosen
            let pick : Nat → List Value × List D := fun i => if h : i < len then ((elem i h).choose, (elem i h).choose_spec.choose) else ([], [])
            have hpick : ∀ i, i < len → (pick i).1.length = P.cellsOf e ∧ (∀ j v, (pick i).1[j]? = some v → w.cell? ⟨b, o + (i * P.cellsOf e + j), none⟩ = some v) ∧ All2 (RB w) (pick i).2 (pick i).1 ∧ Ty P m e (pick i).2 := by
              intro i hi
              simp only [pick, dif_pos hi]
              exact (elem i hi).choose_spec.choose_spec
            let xs : Row := (List.range len).map fun i => (pick i).2
            have hxl : xs.length = len := by simp [xs]
            have hxk : ∀ k x, xs[k]? = some x → k < len ∧ x = (pick k).2 := by
              intro k x hx
              simp only [xs, List.getElem?_map] at hx
              by_cases hk : k < len
              · rw [List.getElem?_range hk] at hx
                simp only [Option.map_some, Option.some.injEq] at hx
                exact ⟨hk, hx.symm⟩
              · rw [List.getElem?_eq_none (by simp; omega)] at hx; cases hx
            have hsz : ∀ x ∈ xs, x.length = P.cellsOf e := by
              intro x hx
              obtain ⟨k, hk⟩ := List.getElem?_of_mem hx
              obtain ⟨h1, rfl⟩ := hxk k x hk
              have := hpick k h1
              rw [this.2.2.1.length]; exact this.1
            refine ⟨[.list .any (P.cellsOf e) xs], ⟨?_, trivial⟩, by simp only [Ty, ht]; exact ⟨.any, xs, rfl, fun x hx => by
              obtain ⟨k, hk⟩ := List.getElem?_of_mem hx
              obtain ⟨h1, rfl⟩ := hxk k x hk
              exact (hpick k h1).2.2.2, by omega, fun h => by cases h⟩⟩
            have := RD.list (w := w) (lv := (Cx.base w).lv) (k := .any) (sz := P.cellsOf e) (xs := xs) (b := b) (o := o) (cap := cap) (fun k j => ((pick k).1[j]?).getD default) hsz (by omega) hc.2.2
              (fun hp => by
                have hlast := hpick (len - 1) (by omega)
                have hj : P.cellsOf e - 1 < (pick (len - 1)).1.length := by omega
                have hcell := hlast.2.1 (P.cellsOf e - 1) _ (by rw [List.getElem?_eq_getElem hj])
                simp only [World.cell?] at hcell
                simp only [Cx.base]
                split at hcell
                · rename_i cs0 _ _ hheap
                  rw [hheap]
                  have hlt := (Array.getElem?_eq_some_iff.1 (by simpa using hcell)).1
                  simp only
                  have e1 : (len - 1) * P.cellsOf e + (P.cellsOf e - 1) + 1 = len * P.cellsOf e := by
                    have : len = (len - 1) + 1 := by omega
                    rw [this, Nat.add_mul]
                    simp only [Nat.add_sub_cancel]
                    omega
                  rw [hxl]
                  omega
                · cases hcell)
              (fun k x j d hx hd => by
                obtain ⟨h1, rfl⟩ := hxk k x hx
                obtain ⟨v, q1, q2⟩ := (hpick k h1).2.2.1.get j d hd
                have := (hpick k h1).2.1 j v q1
                rw [this, q1]; rfl)
              (fun k x j d hx hd => by
                obtain ⟨h1, rfl⟩ := hxk k x hx
                obtain ⟨v, q1, q2⟩ := (hpick k h1).2.2.1.get j d hd
                rw [q1]; exact q2) (by simp) (by simp)
            rw [hxl] at this
            exact this
        · cases h
      case h_9 fs ht =>
        rw [ht] at hf
        simp only [Bool.and_eq_true, beq_iff_eq] at hf
        split at h
        · rename_i hc
          obtain ⟨xs, hx, _⟩ := Option.map_eq_some_iff.1 h
          obtain ⟨ds, h1, h2⟩ := fields_ty ih fs.toList 0 xs hx (by rw [hc]; exact hf.2) hf.1
          exact ⟨ds, by simpa using h1, by simp only [Ty, ht]; exact h2⟩
        · cases h
      case h_10 cs x0 cs1 k e ht =>
        rw [ht] at hf
        simp only [Bool.and_eq_true, beq_iff_eq] at hf
        split at h
        · rename_i hc
          obtain ⟨xs, hx, _⟩ := Option.map_eq_some_iff.1 h
          have elem : ∀ i, i < k → ∃ ds : List D, All2 (RB w) ds ((cs.drop (i * P.cellsOf e)).take (P.cellsOf e)) ∧ Ty P m e ds := by
            intro i hi
            obtain ⟨y, _, hy⟩ := mapM_at hx i i (List.getElem?_range hi)
            exact ih n e _ y hy hf.1
          let pick : Nat → List D := fun i => if h : i < k then (elem i h).choose else []
          have hpick : ∀ i, i < k → All2 (RB w) (pick i) ((cs.drop (i * P.cellsOf e)).take (P.cellsOf e)) ∧ Ty P m e (pick i) := by
            intro i hi
            simp only [pick, dif_pos hi]
            exact (elem i hi).choose_spec
          refine ⟨((List.range k).map pick).flatten, all2_flatten _ (P.cellsOf e) cs (by simp only [List.length_map, List.length_range]; rw [hc, hf.2]) (fun i p hp => ?_), by
            simp only [Ty, ht]
            refine ⟨(List.range k).map pick, by simp, rfl, fun p hp => ?_⟩
            obtain ⟨i, hi, rfl⟩ := List.mem_map.1 hp
            exact (hpick i (List.mem_range.1 hi)).2⟩
          rw [List.getElem?_map] at hp
          by_cases hi : i < k
          · rw [List.getElem?_range hi] at hp
            simp only [Option.map_some, Option.some.injEq] at hp
            subst hp
            exact (hpick i hi).1
          · rw [List.getElem?_eq_none (by simp; omega)] at hp; cases hp
        · cases h
      all_goals (exfalso; simp_all)

end

end Go.Eng
end

/- The arguments of a row, as the evaluator takes them. -/
section
namespace Go.Eng
open Go Go.RowKit Go.ChangeShapes
variable [Inhabited Pkg]
set_option linter.unusedSectionVars false

def aggT (P : Program) (t : TypeId) : Bool :=
  match P.underlying t with
  | some (.struct _) => true
  | some (.array _ _) => true
  | _ => false

def oneAV : List D → AV
  | [d] => .dat d
  | _ => .dead

/-- an argument -/
def argAV (P : Program) (t : TypeId) (ds : List D) : AV := if aggT P t then .agg (ds.map .dat) else oneAV ds

theorem all2_dat {c : Cx} : ∀ {ds : List D} {cs : List Value}, All2 (fun d v => RD c.w c.lv d v) ds cs → All2 (VL c) (ds.map .dat) cs
  | [], [], _ => trivial
  | _ :: _, _ :: _, h => ⟨.dat h.1, all2_dat h.2⟩
  | [], _ :: _, h => h.elim
  | _ :: _, [], h => h.elim

theorem all_pclean (ds : List D) : (ds.map AV.dat).all pclean = true := by
  induction ds with
  | nil => rfl
  | cons d r ih => simp [pclean, ih]

theorem arg_ok {P : Program} {w : World} {base m : Nat} {t : TypeId} {v : Value} {ds : List D} (hv : Value.okWide P w .any base t v) (hf : flat P m t = true) (h : All2 (RB w) ds v.cells.toList) :
    VL (Cx.base w) (argAV P t ds) v ∧ pclean1 (argAV P t ds) = true := by
  cases m with
  | zero => cases hf
  | succ m =>
    unfold flat at hf
    unfold Value.okWide at hv
    unfold argAV aggT
    have agg : ∀ cs, v = .agg cs → VL (Cx.base w) (.agg (ds.map .dat)) v ∧ pclean1 (.agg (ds.map .dat)) = true := by
      rintro cs rfl
      exact ⟨VL.aggL (all2_dat h), by simp only [pclean1]; exact all_pclean ds⟩
    have one : v.cells = #[v] → VL (Cx.base w) (oneAV ds) v ∧ pclean1 (oneAV ds) = true := by
      intro hc
      rw [hc] at h
      match ds, h with
      | [d], h => exact ⟨.dat h.1, rfl⟩
    split at hf
    all_goals first
      | (cases hf; done)
      | skip
    all_goals
      rename_i ht
      simp only [ht, Bool.false_eq_true, if_false, if_true] at hv ⊢
      first
        | (obtain ⟨cs, hcs, _⟩ := hv
           exact agg cs hcs)
        | (refine one ?_
           cases v <;> first
             | rfl
             | (simp [Cell.okWide, Cell.ok, ht] at hv))

theorem args_ok {H : Type} {enc : TypeId × Value → H} {P : Program} {W : World} {m base : Nat} : ∀ {ts : List TypeId} {vs : List Value} {ds : List (DataW H)} {ps : List MemPlace},
    DataW.TrodAll enc P W 0 (fun _ => true) true ts vs ds ps → (∀ (j : Nat) t v, ts[j]? = some t → vs[j]? = some v → Value.okWide P W .any base t v) → ts.all (flat P m) = true →
      ∃ dss : List (List D), All2 (fun t d => Ty P m t d) ts dss ∧ All2 (fun a v => VL (Cx.base W) a v ∧ pclean1 a = true) (List.zipWith (argAV P) ts dss) vs
  | [], [], [], _, _, _, _ => ⟨[], trivial, trivial⟩
  | t :: ts, v :: vs, d :: ds, _, ⟨p, q, ⟨n, hn⟩, hr, _⟩, hv, hf => by
    simp only [List.all_cons, Bool.and_eq_true] at hf
    obtain ⟨x, h1, h2⟩ := trod_ty m n t _ _ hn hf.1
    obtain ⟨dss, h3, h4⟩ := args_ok hr (fun j t v ht hv' => hv (j + 1) t v (by simpa using ht) (by simpa using hv')) hf.2
    exact ⟨x :: dss, ⟨h2, h3⟩, ⟨arg_ok (hv 0 t v rfl rfl) hf.1 h1, h4⟩⟩
  | [], _ :: _, _, _, h, _, _ => h.elim
  | [], [], _ :: _, _, h, _, _ => h.elim
  | _ :: _, [], _, _, h, _, _ => h.elim
  | _ :: _, _ :: _, [], _, h, _, _ => h.elim

/-- **A law's row, out of its evaluation at all arguments.** -/
theorem law_contract {H : Type} {enc : TypeId × Value → H} {P : Program} {f : FuncId} {fn : Func} {s : ChangeSpec} {apart : Bool} {W : World} {base m : Nat} {args : Array Value} {ds gs : List (DataW H)} {before : List MemPlace} {tb : TypeId}
    (hf : fn.params.toList.all (flat P m) = true)
    (hspec : ∀ dss : List (List D), All2 (fun t d => Ty P m t d) fn.params.toList dss → ∃ spec : Spec, COk P f spec ∧ ∃ G', spec (List.zipWith (argAV P) fn.params.toList dss) [] = some (.dat (.bool true), G'))
    (hval : ∀ (j : Nat) t v, fn.params[j]? = some t → args[j]? = some v → Value.okWide P W .any base t v)
    (hW : DataW.Whole enc P fn.params.toList s.vars apart W args.toList ds gs before) (hr : fn.resultTypes = #[tb]) (hu : P.underlying tb = some .bool)
    (hv : s.vars = []) (h1 : (s.fn H (ds ++ gs)).results = [.lit (.bool true)]) (h2 : (s.fn H (ds ++ gs)).args = ds) (h3 : (s.fn H (ds ++ gs)).vars = []) (hl : Laid W (Cx.base W).lv) (hlt : f < yB := by decide) :
    Calls P f args W fun e W' => ∃ v, e = .returned v ∧ s.post enc P fn apart true false false W args v W' := by
  have hW2 := hW
  obtain ⟨p, q, hA, _⟩ := hW2
  obtain ⟨dss, h4, h5⟩ := args_ok (base := base) hA (fun j t v ht hv => hval j t v (by rw [← Array.getElem?_toList]; exact ht) (by rw [← Array.getElem?_toList]; exact hv)) hf
  obtain ⟨spec, hc, G', hs⟩ := hspec dss h4
  refine (law_calls hc hs h5 hl hlt).mono fun e W' he => ?_
  obtain ⟨rfl, hb⟩ := he
  exact ⟨_, rfl, post_law hf hW hb hr hu hv h1 h2 h3⟩

end Go.Eng
end

/- Typed data, opened. -/
section
namespace Go.Eng
open Go
variable [Inhabited Pkg]
set_option linter.unusedSectionVars false

theorem Ty.bool {P : Program} {n : Nat} {t : TypeId} {ds : List D} (hu : P.underlying t = some .bool) (h : Ty P (n + 1) t ds) : ∃ b, ds = [.bool b] := by
  unfold Ty at h
  rw [hu] at h
  exact h

theorem Ty.int {P : Program} {n : Nat} {t : TypeId} {k : IntKind} {ds : List D} (hu : P.underlying t = some (.int k)) (h : Ty P (n + 1) t ds) : ∃ z, ds = [.int k z] ∧ (Lit.int k z).wf = true := by
  unfold Ty at h
  rw [hu] at h
  exact h

theorem Ty.str {P : Program} {n : Nat} {t : TypeId} {ds : List D} (hu : P.underlying t = some .string) (h : Ty P (n + 1) t ds) : ∃ s, ds = [.str s] ∧ s.size ≤ maxLen := by
  unfold Ty at h
  rw [hu] at h
  exact h

theorem Ty.slice {P : Program} {n : Nat} {t e : TypeId} {ds : List D} (hu : P.underlying t = some (.slice e)) (h : Ty P (n + 1) t ds) :
    ∃ k xs, ds = [.list k (P.cellsOf e) xs] ∧ (∀ x ∈ xs, Ty P n e x) ∧ xs.length ≤ maxLen ∧ (k = .nil → xs = []) := by
  unfold Ty at h
  rw [hu] at h
  exact h

theorem Ty.struct {P : Program} {n : Nat} {t : TypeId} {fs : Array Field} {ds : List D} (hu : P.underlying t = some (.struct fs)) (h : Ty P (n + 1) t ds) : TyFs (Ty P n) fs.toList ds := by
  unfold Ty at h
  rw [hu] at h
  exact h

/-- numbers as a row -/
def encI (l : List Int) : Row := l.map fun z => [.int .i64 z]

theorem encI_of : ∀ (xs : Row), (∀ x ∈ xs, ∃ z, x = [D.int .i64 z] ∧ (Lit.int .i64 z).wf = true) → ∃ us : List Int, xs = encI us ∧ us.length = xs.length
  | [], _ => ⟨[], rfl, rfl⟩
  | x :: xs, h => by
    obtain ⟨z, hz, _⟩ := h x (by simp)
    obtain ⟨us, h1, h2⟩ := encI_of xs fun y hy => h y (by simp [hy])
    exact ⟨z :: us, by rw [hz, h1]; rfl, by simp [h2]⟩

/-- a list of int, as it reads -/
theorem Ty.ints {P : Program} {n : Nat} {t e : TypeId} {ds : List D} (hu : P.underlying t = some (.slice e)) (he : P.underlying e = some (.int .i64)) (hc : P.cellsOf e = 1) (h : Ty P (n + 2) t ds) :
    ∃ k us, ds = [.list k 1 (encI us)] ∧ us.length ≤ maxLen := by
  obtain ⟨k, xs, h1, h2, h3, _⟩ := Ty.slice hu h
  obtain ⟨us, h4, h5⟩ := encI_of xs fun x hx => Ty.int he (h2 x hx)
  refine ⟨k, us, ?_, by omega⟩
  rw [h1, hc, h4]

end Go.Eng
end
