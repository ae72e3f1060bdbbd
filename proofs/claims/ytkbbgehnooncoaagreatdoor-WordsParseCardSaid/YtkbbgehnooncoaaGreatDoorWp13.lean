/- Calls: what a caller hands on, what comes back. -/
import Derived.Test.YtkbbgehnooncoaaGreatDoorWp12
import Derived.RangeFuncRecord
section
namespace Go.Eng
open Go Go.RowKit
variable [Inhabited Pkg]
set_option linter.unusedSectionVars false

/-! ### what does not hang on a call's own names -/

theorem VL.pclean {c c' : Cx} {a : AV} {v : Value} (hw : c'.w = c.w) (hl : c'.lv = c.lv) (hg : c'.bg = c.bg) (hp : pclean a = true) (h : VL c a v) : VL c' a v := by
  cases h with
  | dat h => exact .dat (by rw [hw, hl]; exact h)
  | nilp => exact .nilp
  | nilfn => exact .nilfn
  | nili => exact .nili
  | err t v => exact .err t v
  | ptrg hb => exact .ptrg (by rw [hg]; exact hb)
  | yld hb => exact .yld (by rw [hg]; exact hb)
  | _ => simp [Eng.pclean] at hp

theorem VL.pclean1 {c c' : Cx} {a : AV} {v : Value} (hw : c'.w = c.w) (hl : c'.lv = c.lv) (hg : c'.bg = c.bg) (hp : pclean1 a = true) (h : VL c a v) : VL c' a v := by
  cases a with
  | agg cs =>
    cases h with
    | agg hl' h =>
      simp only [Eng.pclean1, List.all_eq_true] at hp
      exact .agg hl' fun j a ha v hv => (h j a ha v hv).pclean hw hl hg (hp a (List.mem_of_getElem? ha))
  | fn f cs =>
    cases h with
    | fn hl' h =>
      simp only [Eng.pclean1, List.all_eq_true] at hp
      exact .fn hl' fun j a ha v hv => (h j a ha v hv).pclean hw hl hg (hp a (List.mem_of_getElem? ha))
  | _ => exact h.pclean hw hl hg (by simpa [Eng.pclean1] using hp)

theorem VL.tclean {c c' : Cx} {a : AV} {v : Value} (hw : c'.w = c.w) (hl : c'.lv = c.lv) (hg : c'.bg = c.bg) (hp : tclean a = true) (h : VL c a v) : VL c' a v := by
  cases a with
  | dead => exact .dead v
  | _ => exact h.pclean1 hw hl hg (by simpa [Eng.tclean] using hp)

/-- what a call may give back -/
def rclean : AV → Bool
  | .tup cs => cs.all pclean1
  | a => pclean1 a

theorem VL.rclean {c c' : Cx} {a : AV} {v : Value} (hw : c'.w = c.w) (hl : c'.lv = c.lv) (hg : c'.bg = c.bg) (hp : rclean a = true) (h : VL c a v) : VL c' a v := by
  cases a with
  | tup cs =>
    cases h with
    | tup hl' h =>
      simp only [Eng.rclean, List.all_eq_true] at hp
      exact .tup hl' fun j a ha v hv => (h j a ha v hv).pclean1 hw hl hg (hp a (List.mem_of_getElem? ha))
  | _ => exact h.pclean1 hw hl hg (by simpa [Eng.rclean] using hp)

theorem RowOk.cx {c c' : Cx} {who : Who} {b cap sz : Nat} {xs : Row} {m : Mode} (hw : c'.w = c.w) (hl : c'.lv = c.lv) (ho : c'.own b = some who) {who0 : Who} (h : RowOk c who0 b cap sz xs m) : RowOk c' who b cap sz xs m := by
  obtain ⟨⟨cur, ty, fz, h1, h2, h3, h4, h4'⟩, h5, h6, h7, h8, h9, h10⟩ := h
  refine ⟨⟨cur, ty, fz, by rw [hw]; exact h1, h2, h3, ⟨h4.hsz, fun k x j d q1 q2 => ?_⟩, h4'⟩, h5, h6, h7, ho, h9, by rw [hl]; exact h10⟩
  obtain ⟨v, z1, z2⟩ := h4.hc k x j d q1 q2
  exact ⟨v, z1, by rw [hw, hl]; exact z2⟩

/-- whom a block is everybody's through -/
def Who.isG : Who → Bool
  | .lent _ => false
  | _ => true

theorem CL.cx {c c' : Cx} {g j : Nat} {a : AV} {v : Value} (hw : c'.w = c.w) (hl : c'.lv = c.lv) (hg : c'.bg = c.bg) (ho : ∀ b who, who.isG = true → c.own b = some who → c'.own b = some who) (hc : gclean a = true) (h : CL c g j a v) : CL c' g j a v := by
  cases a with
  | rowc m sz xs =>
    obtain ⟨b, cap, h1, h2⟩ := h
    exact ⟨b, cap, h1, h2.cx hw hl (ho _ _ rfl h2.own)⟩
  | dead => exact VL.dead v
  | ptr r off =>
    cases r with
    | loc i => simp [gclean] at hc
    | glob g' => exact VL.pclean hw hl hg rfl (show VL c _ v from h)
  | dat _ => exact VL.pclean hw hl hg rfl (show VL c _ v from h)
  | nilp => exact VL.pclean hw hl hg rfl (show VL c _ v from h)
  | nilfn => exact VL.pclean hw hl hg rfl (show VL c _ v from h)
  | nili => exact VL.pclean hw hl hg rfl (show VL c _ v from h)
  | err => exact VL.pclean hw hl hg rfl (show VL c _ v from h)
  | yld _ => exact VL.pclean hw hl hg rfl (show VL c _ v from h)
  | _ => simp [gclean] at hc

theorem GOk.cx {c c' : Cx} {g : Nat} {e : Ent} (hw : c'.w = c.w) (hl : c'.lv = c.lv) (hg : c'.bg = c.bg) (ho : ∀ b who, who.isG = true → c.own b = some who → c'.own b = some who) (h : GOk c g e) : GOk c' g e := by
  cases e with
  | obj cs =>
    obtain ⟨b, cur, ty, h1, h2, h3, h4, h5, h6⟩ := h
    refine ⟨b, cur, ty, by rw [hg]; exact h1, by rw [hw]; exact h2, ho _ _ rfl h3, by rw [hl]; exact h4, h5, fun j a ha => ?_⟩
    obtain ⟨q1, v, q2, q3⟩ := h6 j a ha
    exact ⟨q1, v, q2, q3.cx hw hl hg ho q1⟩
  | row => exact h.elim
  | fwd => exact h.elim
  | lrec ls ts ps asg body =>
    obtain ⟨l, r, h1, h2, h3, h4, h5, h6, h7, h8, h9, h10, h11⟩ := h
    refine ⟨l, r, by rw [hg]; exact h1, by rw [hw]; exact h2, ho _ _ rfl h3, by rw [hl]; exact h4, h5, h6, h7, h8, h9, h10, fun j a ha => ?_⟩
    obtain ⟨k1, v, k2, k3⟩ := h11 j a ha
    exact ⟨k1, v, k2, k3.tclean hw hl hg k1⟩
  | gone =>
    obtain ⟨b, h1, h2⟩ := h
    exact ⟨b, by rw [hg]; exact h1, ho _ _ rfl h2⟩

/-! ### contracts -/

def gMem (G : List Ent) (ep : Nat) : Mem := { L := [], G := G, ep := ep }

/-- what a call finds -/
structure Enter (c : Cx) (G : List Ent) : Prop where
  mem : MemOk c (gMem G 0)
  glob : ∀ b who, c.own b = some who → who.isG = true

/-- what a call gives back -/
def RL (c : Cx) (a : AV) (v : Value) : Prop :=
  match a with
  | .own x sz xs => ∃ b cap i, v = .slice (some ⟨b, 0, none⟩) xs.length cap ∧ RowOk c (.lent i) b cap sz xs (if x then .excl else .own)
  | a => VL c a v ∧ rclean a = true

abbrev Spec := List AV → List Ent → Option (AV × List Ent)

/-- What a call comes to. -/
def Back (c : Cx) (r : AV) (G' : List Ent) : Ending → World → Prop
  | .returned v, w' => ∃ c', c'.w = w' ∧ Ext c c' ∧ MemOk c' (gMem G' c'.ep) ∧ RL c' r v
  | _, _ => False

def Enters (P : Program) (f : FuncId) : Prop := ∃ fn, P.funcs[f]? = some fn ∧ (fn.name == "runtime.NumGoroutine") = false ∧ fn.body.isNone = false

/-- a call of a loop's body -/
def RoundAt (P : Program) (l : Nat) (vs : Array Value) (w : World) (R : Ending → World → Prop) : Prop :=
  ∃ fn tmps asg body, (Instr.yield l vs).run P w = .ok (.round l fn tmps asg body) w ∧ ∀ n, RoundIn Fence.wide n P l fn tmps asg body w R

/-- a call of what a number stands for: a function, or a loop's body -/
def Reaches (P : Program) (f : FuncId) (c : Cx) (vs : Array Value) (R : Ending → World → Prop) : Prop :=
  (f < yB → Enters P f ∧ Calls P f vs c.w R) ∧ ∀ l, yB ≤ f → c.bg (f - yB) = some l → RoundAt P l vs c.w R

theorem Reaches.mono {P : Program} {f : FuncId} {c c' : Cx} {vs : Array Value} {R R' : Ending → World → Prop} (h : Reaches P f c vs R) (hw : c'.w = c.w) (hb : ∀ g l, c'.bg g = some l → c.bg g = some l) (hr : ∀ e w', R e w' → R' e w') : Reaches P f c' vs R' := by
  refine ⟨fun hf => ?_, fun l hf hl => ?_⟩
  · rw [hw]; exact ⟨(h.1 hf).1, (h.1 hf).2.mono hr⟩
  · obtain ⟨fn, tmps, asg, body, h1, h2⟩ := h.2 l hf (hb _ _ hl)
    exact ⟨fn, tmps, asg, body, by rw [hw]; exact h1, fun n => by rw [hw]; exact (h2 n).mono hr⟩

/-- **The contract of a function.** -/
def COk (P : Program) (f : FuncId) (spec : Spec) : Prop :=
  ∀ (c : Cx) (as : List AV) (G : List Ent) (vs : Array Value) (r : AV) (G' : List Ent), spec as G = some (r, G') → Enter c G → All2 (fun a v => VL c a v ∧ pclean1 a = true) as vs.toList →
    Reaches P f c vs (Back c r G')

/-- of a function -/
theorem Reaches.func {P : Program} {f : FuncId} {c : Cx} {vs : Array Value} {R : Ending → World → Prop} (hf : f < yB) (h : Enters P f ∧ Calls P f vs c.w R) : Reaches P f c vs R :=
  ⟨fun _ => h, fun _ h2 => absurd (Nat.lt_of_lt_of_le hf h2) (Nat.lt_irrefl _)⟩

/-- a callee's context -/
def Cx.enter (c : Cx) : Cx :=
  { c with own := fun b => match c.own b with
      | some who => if who.isG then some who else none
      | none => none, bl := fun _ => none, ep := 0 }

theorem Cx.enter_own {c : Cx} {b : Nat} {who : Who} (h : who.isG = true) (ho : c.own b = some who) : c.enter.own b = some who := by simp [Cx.enter, ho, h]

theorem enter_ok {c : Cx} {m : Mem} (h : MemOk c m) : Enter c.enter m.G := by
  refine ⟨⟨⟨h.wf.lv, fun b hb => by simp [Cx.enter, h.wf.own b hb], h.wf.pk⟩, rfl, fun _ _ => rfl, fun i e hi => by simp [gMem] at hi, h.gn, fun g e hg => GOk.cx (c := c) (c' := c.enter) rfl rfl rfl (fun b who hw ho => Cx.enter_own hw ho) (h.g g e hg)⟩, fun b who hb => ?_⟩
  simp only [Cx.enter] at hb
  split at hb
  · rename_i who' ho
    split at hb
    · rename_i hw
      injection hb with hb
      rw [← hb]; exact hw
    · cases hb
  · cases hb

/-- the caller's context behind a call: block rb is the new entity i's -/
def Cx.leave (c c2 : Cx) (rb : Option (Nat × Nat × Nat)) : Cx :=
  { w := c2.w, lv := c2.lv,
    own := fun b => match rb with
      | some (b0, i, _) => if b = b0 then some (.lent i) else
        match c.own b with
        | some (.lent k) => some (.lent k)
        | _ => match c2.own b with
          | some who => if who.isG then some who else none
          | none => none
      | none => match c.own b with
        | some (.lent k) => some (.lent k)
        | _ => match c2.own b with
          | some who => if who.isG then some who else none
          | none => none
    bl := fun k => match rb with
      | some (b0, i, _) => if k = i then some b0 else c.bl k
      | none => c.bl k
    bg := c2.bg
    rl := fun k => match rb with
      | some (_, i, n) => if k = i then n else c.rl k
      | none => c.rl k
    ep := c.ep + 1 }

structure Left (c c2 : Cx) (rb : Option (Nat × Nat × Nat)) : Prop where
  x : Ext c.enter c2
  wf2 : WF c2
  wf : WF c
  rbo : ∀ b0 i n, rb = some (b0, i, n) → (∃ k, c2.own b0 = some (.lent k)) ∧ c.bl i = none

theorem Left.own_lent {c c2 : Cx} {rb : Option (Nat × Nat × Nat)} (h : Left c c2 rb) {b k : Nat} (ho : c.own b = some (.lent k)) :
    c2.w.heap[b]? = c.w.heap[b]? ∧ (c.leave c2 rb).own b = some (.lent k) ∧ c2.lv b = c.lv b := by
  have hb := MemOk.lt_own h.wf ho
  obtain ⟨h1, h2, h3⟩ := h.x.fo b hb (by simp [Cx.enter, ho, Who.isG])
  refine ⟨h1, ?_, h3⟩
  cases rb with
  | none => simp [Cx.leave, ho]
  | some t =>
    obtain ⟨b0, i, n⟩ := t
    obtain ⟨⟨k', hk'⟩, _⟩ := h.rbo b0 i n rfl
    have : b ≠ b0 := fun e => by rw [← e, h2] at hk'; cases hk'
    simp [Cx.leave, ho, this]

theorem Left.own_g {c c2 : Cx} {rb : Option (Nat × Nat × Nat)} (h : Left c c2 rb) {b : Nat} {who : Who} (hw : who.isG = true) (ho : c2.own b = some who) : (c.leave c2 rb).own b = some who := by
  have hc : ∀ k, c.own b ≠ some (.lent k) := fun k hk => by
    have hb := MemOk.lt_own h.wf hk
    obtain ⟨_, h2, _⟩ := h.x.fo b hb (by simp [Cx.enter, hk, Who.isG])
    rw [h2] at ho; cases ho
  have inner : (match c.own b with
        | some (.lent k) => some (.lent k)
        | _ => match c2.own b with
          | some who => if who.isG then some who else none
          | none => none) = some who := by
    split
    · rename_i k hk; exact absurd hk (hc k)
    · simp [ho, hw]
  cases rb with
  | none => exact inner
  | some t =>
    obtain ⟨b0, i, n⟩ := t
    obtain ⟨⟨k', hk'⟩, _⟩ := h.rbo b0 i n rfl
    have : b ≠ b0 := fun e => by
      rw [e, hk'] at ho
      injection ho with ho
      rw [← ho] at hw
      cases hw
    show (if b = b0 then some (Who.lent i) else _) = some who
    rw [if_neg this]
    exact inner

theorem Left.own_none {c c2 : Cx} {rb : Option (Nat × Nat × Nat)} (h : Left c c2 rb) {b : Nat} (hc : c.own b = none) (h2 : c2.own b = none) : (c.leave c2 rb).own b = none := by
  cases rb with
  | none => simp [Cx.leave, hc, h2]
  | some t =>
    obtain ⟨b0, i, n⟩ := t
    obtain ⟨⟨k', hk'⟩, _⟩ := h.rbo b0 i n rfl
    have : b ≠ b0 := fun e => by rw [← e, h2] at hk'; cases hk'
    simp [Cx.leave, hc, h2, this]

theorem Left.bl {c c2 : Cx} {rb : Option (Nat × Nat × Nat)} (h : Left c c2 rb) {k x : Nat} (hk : c.bl k = some x) : (c.leave c2 rb).bl k = some x ∧ (c.leave c2 rb).rl k = c.rl k := by
  cases rb with
  | none => exact ⟨hk, rfl⟩
  | some t =>
    obtain ⟨b0, i, n⟩ := t
    obtain ⟨_, hi⟩ := h.rbo b0 i n rfl
    have : k ≠ i := fun e => by rw [e, hi] at hk; cases hk
    simp [Cx.leave, hk, this]

theorem Left.ext {c c2 : Cx} {rb : Option (Nat × Nat × Nat)} (h : Left c c2 rb) : Ext c (c.leave c2 rb) where
  os := h.x.os
  tape := h.x.tape
  output := h.x.output
  size := h.x.size
  stay := h.x.stay
  fo := fun b hb hn => by
    obtain ⟨h1, h2, h3⟩ := h.x.fo b hb (by simp [Cx.enter, hn])
    exact ⟨h1, h.own_none hn h2, h3⟩
  sh := h.x.sh
  bl := fun i b hb => (h.bl hb).1
  bg := h.x.bg
  rl := fun i b hb => (h.bl hb).2
  ep := Nat.le_add_right _ _
  gc := fun he => by simp only [Cx.leave] at he; omega

theorem Left.wf' {c c2 : Cx} {rb : Option (Nat × Nat × Nat)} (h : Left c c2 rb) : WF (c.leave c2 rb) :=
  ⟨h.wf2.lv, fun b hb => h.own_none (h.wf.own b (Nat.le_trans h.x.size hb)) (h.wf2.own b hb), h.wf2.pk⟩

theorem Left.same {c c2 : Cx} {rb : Option (Nat × Nat × Nat)} (h : Left c c2 rb) (k : Nat) : Same c (c.leave c2 rb) (.lent k) := fun _ hb => h.own_lent hb

/-- memory behind a call that gives no row -/
theorem Left.mem {c c2 : Cx} (h : Left c c2 none) {m : Mem} (hm : MemOk c m) {G : List Ent} (hG : MemOk c2 (gMem G c2.ep)) : MemOk (c.leave c2 none) { m with G := G, ep := m.ep + 1 } :=
  hm.of h.ext h.wf' (by simp [Cx.leave, hm.ep]) (fun i e hi => .inl ⟨hi, h.same i⟩) (fun i hi => hm.ln i hi) (fun g e hg => .inr (GOk.cx (c := c2) rfl rfl rfl (fun b who hw ho => h.own_g hw ho) (hG.g g e hg))) (fun g hg => hG.gn g hg)

/-- memory behind a call that gives a row -/
theorem Left.memRow {c c2 : Cx} {b0 i n : Nat} (h : Left c c2 (some (b0, i, n))) {m : Mem} (hm : MemOk c m) (hi : m.L[i]? = some none) {G : List Ent} (hG : MemOk c2 (gMem G c2.ep)) {md : Mode} {sz : Nat} {xs : Row} (he : EOk (c.leave c2 (some (b0, i, n))) i (.row md sz xs)) :
    MemOk (c.leave c2 (some (b0, i, n))) (({ m with G := G, ep := m.ep + 1 } : Mem).set (.loc i) (.row md sz xs)) := by
  have hil := (List.getElem?_eq_some_iff.1 hi).1
  refine hm.of h.ext h.wf' (by simp [Cx.leave, hm.ep, Mem.set]) (fun k e hk => ?_) (fun k hk => ?_) (fun g e hg => .inr (GOk.cx (c := c2) rfl rfl rfl (fun b who hw ho => h.own_g hw ho) (hG.g g e hg))) (fun g hg => hG.gn g hg)
  · simp only [Mem.set] at hk
    rw [set_get] at hk
    split at hk
    · rename_i h1
      obtain ⟨rfl, _⟩ := h1
      simp only [Option.some.injEq] at hk
      subst hk
      exact .inr he
    · exact .inl ⟨hk, h.same k⟩
  · simp only [Mem.set, List.length_set] at hk
    rw [set_get] at hk
    split at hk
    · rename_i h1
      obtain ⟨rfl, _⟩ := h1
      rcases hk with hk | hk
      · cases hk
      · omega
    · rename_i h1
      have : k ≠ i := fun e => h1 ⟨e.symm, hil⟩
      simp only [Cx.leave, if_neg this]
      exact hm.ln k hk

/-- **A call, as its caller sees it.** -/
theorem callF_ok {P : Program} {orc : Orc} (hO : ∀ f, COk P f (orc f)) {c : Cx} {m m' : Mem} (hm : MemOk c m) {fresh : Nat} (hf : m.L[fresh]? = some none) {f : FuncId} {as : List AV} {vs : Array Value} {res : AV}
    (h : callF orc m fresh f as = some (res, m')) (hv : All2 (VL c) as vs.toList) :
    Reaches P f c vs fun
      | .returned v, w' => ∃ c', c'.w = w' ∧ Ext c c' ∧ MemOk c' m' ∧ VL c' res v
      | _, _ => False := by
  unfold callF at h
  split at h
  · rename_i bs m1 hp
    obtain ⟨c1, g1, hm1, hbs⟩ := mapS_pass hp hm hv
    have hfree := mapS_free (fun _ _ _ _ h => pass_free h) _ _ _ _ hp
    have hf1 := hfree.free fresh hf
    split at h
    · rename_i r G hr
      have hcalls := hO f c1.enter bs m1.G vs r G hr (enter_ok hm1) (hbs.mono fun a v h => ⟨VL.pclean1 (c := c1) (c' := c1.enter) rfl rfl rfl h.2 h.1, h.2⟩)
      refine hcalls.mono g1.w.symm (fun g l hl => g1.ext.bg g l hl) fun e w' he => ?_
      cases e with
      | panicked ch => exact he.elim
      | outgrown => exact he.elim
      | returned v =>
        obtain ⟨c2, hw2, x2, hG2, hres⟩ := he
        have hbl : c1.bl fresh = none := hm1.ln fresh (.inl hf1)
        unfold take at h
        cases r with
        | own x sz xs =>
          simp only [Option.some.injEq, Prod.mk.injEq] at h
          obtain ⟨rfl, rfl⟩ := h
          obtain ⟨b, cap, i, rfl, hrow⟩ := hres
          have L : Left c1 c2 (some (b, fresh, xs.length)) := ⟨x2, hG2.wf, hm1.wf, fun b0 i0 n e => by
            simp only [Option.some.injEq, Prod.mk.injEq] at e
            obtain ⟨rfl, rfl, rfl⟩ := e
            exact ⟨⟨i, hrow.own⟩, hbl⟩⟩
          have hrow' : RowOk (c1.leave c2 (some (b, fresh, xs.length))) (.lent fresh) b cap sz xs (if x then .excl else .own) := RowOk.cx (c := c2) rfl rfl (by simp [Cx.leave]) hrow
          obtain ⟨⟨cur, ty, fz, q1, q2, q3, q4, q4'⟩, q5, q6, q7, q8, q9, q10⟩ := hrow'
          refine ⟨c1.leave c2 (some (b, fresh, xs.length)), hw2, g1.ext.trans L.ext, L.memRow hm1 hf1 hG2 (.of_row (by simp [Cx.leave]) (by simp [Cx.leave]) q9 ⟨⟨cur, ty, fz, q1, q2, q3, q4, q4'⟩, q5, q6, q7, q8, q9, q10⟩), ?_⟩
          exact .sh (b := b) (by simp [Cx.leave]) (by simp [Cx.leave]) ⟨⟨b, 0, none⟩, cap, ty, cur.size, rfl, shape_of q1, q5, q6, by rw [Nat.zero_add]; exact q3, by simp, .inl (by simp)⟩
        | _ =>
          first
            | (cases h; done)
            | (simp only [Option.some.injEq, Prod.mk.injEq] at h
               obtain ⟨rfl, rfl⟩ := h
               have L : Left c1 c2 none := ⟨x2, hG2.wf, hm1.wf, fun b0 i0 n e => by cases e⟩
               obtain ⟨hvl, hcl⟩ := hres
               exact ⟨c1.leave c2 none, hw2, g1.ext.trans L.ext, L.mem hm1 hG2, VL.rclean (c := c2) rfl rfl rfl hcl hvl⟩)
    · cases h
  · cases h

end Go.Eng
end
