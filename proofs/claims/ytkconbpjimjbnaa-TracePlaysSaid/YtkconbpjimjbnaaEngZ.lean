/- Code: regions, choices, blocks, loops. -/
import Derived.Test.YtkconbpjimjbnaaEngY
import Derived.ScopeJumps
import Derived.LoopN
namespace Go.Eng
open Go Go.RowKit

/-- what stays of a call's world while its own names may turn -/
structure Far (c c' : Cx) : Prop where
  os : c'.w.os = c.w.os
  tape : c'.w.tape = c.w.tape
  output : c'.w.output = c.w.output
  size : c.w.heap.size ≤ c'.w.heap.size
  stay : Stay c.w c.lv c'.w c'.lv
  fo : ∀ b, b < c.w.heap.size → c.own b = none → c'.w.heap[b]? = c.w.heap[b]? ∧ c'.own b = none ∧ c'.lv b = c.lv b
  sh : ∀ b s, c.w.shape? b = some s → c'.w.shape? b = some s
  bg : ∀ g b, c.bg g = some b → c'.bg g = some b

theorem Ext.far {c c' : Cx} (x : Ext c c') : Far c c' := ⟨x.os, x.tape, x.output, x.size, x.stay, x.fo, x.sh, x.bg⟩

theorem Far.refl (c : Cx) : Far c c := (Ext.refl c).far

theorem Far.trans {a b c : Cx} (h : Far a b) (k : Far b c) : Far a c where
  os := k.os.trans h.os
  tape := k.tape.trans h.tape
  output := k.output.trans h.output
  size := Nat.le_trans h.size k.size
  stay := h.stay.trans k.stay
  fo := fun x hx hn => by
    obtain ⟨h1, h2, h3⟩ := h.fo x hx hn
    obtain ⟨k1, k2, k3⟩ := k.fo x (Nat.lt_of_lt_of_le hx h.size) h2
    exact ⟨k1.trans h1, k2, k3.trans h3⟩
  sh := fun b s hs => k.sh b s (h.sh b s hs)
  bg := fun g b hg => k.bg g b (h.bg g b hg)

/-! ### the head of a loop -/

theorem addAll_nodup : ∀ (l acc : List Nat), acc.Nodup → (addAll acc l).Nodup
  | [], acc, h => h
  | i :: r, acc, h => by
    unfold addAll
    refine addAll_nodup r _ ?_
    split
    · exact h
    · rename_i hc
      have : i ∉ acc := by simpa using hc
      rw [List.nodup_append]
      exact ⟨h, by simp, fun a ha b hb e => by simp at hb; subst hb; subst e; exact this ha⟩

theorem reach_nodup (L : List (Option Ent)) : ∀ (n : Nat) (acc : List Nat), acc.Nodup → (reach L n acc).Nodup
  | 0, acc, h => h
  | n + 1, acc, h => by
    unfold reach
    exact reach_nodup L n _ (addAll_nodup _ _ h)

theorem idxOf_get {ks : List Nat} (h : ks.Nodup) {j i : Nat} (hj : ks[j]? = some i) : ks.idxOf? i = some j := by
  induction ks generalizing j with
  | nil => simp at hj
  | cons k r ih =>
    obtain ⟨h1, h2⟩ := List.nodup_cons.1 h
    rw [List.idxOf?_cons]
    cases j with
    | zero =>
      simp only [List.getElem?_cons_zero, Option.some.injEq] at hj
      subst hj
      simp
    | succ j =>
      simp only [List.getElem?_cons_succ] at hj
      have hne : k ≠ i := fun e => h1 (e ▸ List.mem_of_getElem? hj)
      simp [hne, ih h2 hj]

theorem get_idxOf {ks : List Nat} {j i : Nat} (h : ks.idxOf? i = some j) : ks[j]? = some i := by
  induction ks generalizing j with
  | nil => simp at h
  | cons k r ih =>
    rw [List.idxOf?_cons] at h
    split at h
    · rename_i he
      injection h with h
      subst h
      simp at he
      simp [he]
    · cases hr : r.idxOf? i with
      | none => rw [hr] at h; cases h
      | some j' =>
        rw [hr] at h
        simp only [Option.map_some, Option.some.injEq] at h
        subst h
        simpa using ih hr

/-- names turned: ks lists what is kept -/
def Cx.ren (c : Cx) (ks : List Nat) : Cx :=
  { w := c.w, lv := c.lv,
    own := fun b => match c.own b with
      | some (.lent i) => (ks.idxOf? i).map .lent
      | o => o
    bl := fun j => (ks[j]?).bind c.bl
    bg := c.bg
    rl := fun j => match ks[j]? with
      | some i => c.rl i
      | none => 0
    ep := 0 }

theorem Cx.ren_far (c : Cx) (ks : List Nat) : Far c (c.ren ks) :=
  ⟨rfl, rfl, rfl, Nat.le_refl _, .refl _ _, fun b _ hn => ⟨rfl, by simp [Cx.ren, hn], rfl⟩, fun _ _ h => h, fun _ _ h => h⟩

theorem ren_ok {c : Cx} {m : Mem} (hm : MemOk c m) {ks : List Nat} {i : Nat} {r : Ref} (h : renOf m.L ks i = some r) :
    (∃ j, r = .loc j ∧ ks[j]? = some i) ∨ (∃ g, r = .glob g ∧ ∃ b, c.bl i = some b ∧ c.bg g = some b) := by
  unfold renOf at h
  split at h
  · rename_i g hg
    injection h with h
    obtain ⟨b, h1, h2⟩ := hm.l _ _ hg
    exact .inr ⟨g, h.symm, b, h1, h2⟩
  · split at h
    · rename_i j hj
      injection h with h
      exact .inl ⟨j, h.symm, get_idxOf hj⟩
    · cases h

theorem ren0_ok {c : Cx} {m : Mem} (hm : MemOk c m) (ks : List Nat) {a : AV} {v : Value} (h : VL c a v) : VL (c.ren ks) (ren0 (renOf m.L ks) a) v := by
  unfold ren0
  split
  · cases h with | dat h => exact .dat h
  · cases h; exact .undef
  · cases h; exact .nilp
  · cases h; exact .nilfn
  · cases h; exact .nili
  · cases h; exact .err _ _
  · cases h with
    | fn hl hh => exact .fn hl (by simp)
  · split
    · rename_i j hj
      rcases ren_ok hm hj with ⟨j', e, hk⟩ | ⟨g, e, _⟩
      · injection e with e
        subst e
        cases h with
        | sh hb hl hs => exact .sh (by simp [Cx.ren, hk, hb]) (by simp only [Cx.ren, hk]; exact hl) hs
      · cases e
    · exact .dead v
  · split
    · rename_i r hr
      rcases ren_ok hm hr with ⟨j', rfl, hk⟩ | ⟨g, rfl, b, h1, h2⟩
      · cases h with
        | ptrl hb => exact .ptrl (by simp [Cx.ren, hk, hb])
      · cases h with
        | ptrl hb =>
          rw [h1] at hb
          injection hb with hb
          subst hb
          exact .ptrg h2
    · exact .dead v
  · cases h with
    | ptrg hb => exact .ptrg hb
  · exact .dead v

theorem ren1_ok {c : Cx} {m : Mem} (hm : MemOk c m) (ks : List Nat) {a : AV} {v : Value} (h : VL c a v) : VL (c.ren ks) (ren1 (renOf m.L ks) a) v := by
  unfold ren1
  split
  · cases h with
    | agg hl hh =>
      refine .agg (by simpa using hl) fun j a ha v hv => ?_
      rw [List.getElem?_map] at ha
      obtain ⟨a', h1, rfl⟩ := Option.map_eq_some_iff.1 ha
      exact ren0_ok hm ks (hh j a' h1 v hv)
  · cases h with
    | fn hl hh =>
      refine .fn (by simpa using hl) fun j a ha v hv => ?_
      rw [List.getElem?_map] at ha
      obtain ⟨a', h1, rfl⟩ := Option.map_eq_some_iff.1 ha
      exact ren0_ok hm ks (hh j a' h1 v hv)
  · exact ren0_ok hm ks h

theorem killBut_ok {c : Cx} (keep : List Nat) : ∀ (i : Nat) (ts : List AV) (vs : List Value), All2 (VL c) ts vs → All2 (VL c) (killBut keep i ts) vs
  | _, [], [], _ => trivial
  | i, a :: r, v :: s, h => by
    refine ⟨?_, killBut_ok keep (i + 1) r s h.2⟩
    split
    · exact h.1
    · exact .dead v
  | _, [], _ :: _, h => h.elim
  | _, _ :: _, [], h => h.elim

/-- what is kept of entity i -/
def keptEnt (L : List (Option Ent)) (ks : List Nat) (i : Nat) : Option Ent :=
  match L[i]? with
  | some (some e) => some (renE (renOf L ks) e)
  | _ => none

theorem tidy_ok {c : Cx} {st : St} {a : Act} (keep : List Nat) (h : Sim c st a) : ∃ c', c'.w = c.w ∧ Far c c' ∧ Sim c' (tidy keep st) a := by
  obtain ⟨ks, hks⟩ : ∃ ks, ks = (reach st.mem.L 3 (addAll [] ((killBut keep 0 st.tmps).flatMap locs1))).filter fun i => !isFwd st.mem.L[i]? := ⟨_, rfl⟩
  have hnd : ks.Nodup := by
    rw [hks]
    exact (reach_nodup _ _ _ (addAll_nodup _ _ List.nodup_nil)).filter _
  have hnf : ∀ i ∈ ks, isFwd st.mem.L[i]? = false := fun i hi => by
    rw [hks] at hi
    simpa using (List.mem_filter.1 hi).2
  have hm := h.mem
  have ht : tidy keep st = ⟨(killBut keep 0 st.tmps).map (ren1 (renOf st.mem.L ks)), ⟨ks.map (keptEnt st.mem.L ks), st.mem.G, 0⟩⟩ := by rw [hks]; rfl
  have hg : ∀ b who, who.isG = true → c.own b = some who → (c.ren ks).own b = some who := by
    intro b who hw ho
    simp only [Cx.ren, ho]
    cases who <;> first | rfl | cases hw
  have hwf : WF (c.ren ks) := ⟨hm.wf.lv, fun b hb => by simp [Cx.ren, hm.wf.own b hb]⟩
  refine ⟨c.ren ks, rfl, c.ren_far ks, ⟨?_, ?_, h.defers⟩⟩
  · rw [ht]
    refine ⟨hwf, rfl, fun j hj => ?_, fun j e hj => ?_, hm.gn, fun g e hge => GOk.cx (c := c) rfl rfl rfl hg (hm.g g e hge)⟩
    · simp only [List.length_map, List.getElem?_map] at hj
      show (ks[j]?).bind c.bl = none
      cases hk : ks[j]? with
      | none => rfl
      | some i =>
        simp only [Option.bind_some]
        rw [hk] at hj
        rcases hj with hj | hj
        · simp only [Option.map_some, Option.some.injEq, keptEnt] at hj
          split at hj
          · cases hj
          · rename_i hne
            cases hl : st.mem.L[i]? with
            | none => exact hm.ln i (.inr (by simpa using hl))
            | some o =>
              cases o with
              | none => exact hm.ln i (.inl hl)
              | some e => exact absurd hl (hne e)
        · have := (List.getElem?_eq_some_iff.1 hk).1
          omega
    · simp only [List.getElem?_map] at hj
      obtain ⟨i, hk, hj⟩ := Option.map_eq_some_iff.1 hj
      unfold keptEnt at hj
      split at hj
      · rename_i e0 he0
        injection hj with hj
        subst hj
        have hok := hm.l i e0 he0
        have hown : ∀ b, c.own b = some (.lent i) → (c.ren ks).own b = some (.lent j) := fun b ho => by simp [Cx.ren, ho, idxOf_get hnd hk]
        cases e0 with
        | obj cs =>
          obtain ⟨b, cur, ty, h1, h2, h3, h4, h5⟩ := hok
          refine ⟨b, cur, ty, by simp [Cx.ren, hk, h1], h2, hown b h3, h4, by simpa using h5.1, fun k a ha => ?_⟩
          rw [List.getElem?_map] at ha
          obtain ⟨a', q1, rfl⟩ := Option.map_eq_some_iff.1 ha
          obtain ⟨v, q2, q3⟩ := h5.2 k a' q1
          exact ⟨v, q2, ren0_ok hm ks q3⟩
        | row md sz xs =>
          obtain ⟨b, cap, h1, h2, h3⟩ := hok
          refine ⟨b, cap, by simp [Cx.ren, hk, h1], by simp [Cx.ren, hk, h2], ?_⟩
          cases md with
          | ro => exact h3
          | own => exact RowOk.cx (c := c) rfl rfl (hown b (RowOk.own h3)) h3
          | excl => exact RowOk.cx (c := c) rfl rfl (hown b (RowOk.own h3)) h3
        | fwd g =>
          have := hnf i (List.mem_of_getElem? hk)
          rw [he0] at this
          simp [isFwd] at this
        | gone => trivial
      · cases hj
  · rw [ht]
    have := killBut_ok keep 0 _ _ h.tmps
    refine All2.of (by simpa using this.length) fun j a ha v hv => ?_
    rw [List.getElem?_map] at ha
    obtain ⟨a', q1, rfl⟩ := Option.map_eq_some_iff.1 ha
    obtain ⟨v', q2, q3⟩ := this.get j a' q1
    rw [hv] at q2
    injection q2 with q2
    rw [q2]; exact ren1_ok hm ks q3

/-! ### code -/

def Ex.exit' : Ex → Exit
  | .norm => .normal
  | .exit id => .exit id
  | .goto l => .goto l
  | .ret => .ret

/-- room for what a region lays -/
theorem Sim.more {c : Cx} {st : St} {a : Act} (h : Sim c st a) (n : Nat) : Sim c (st.more n) a := by
  refine ⟨⟨h.mem.wf, h.mem.ep, fun i hi => ?_, fun i e hi => ?_, h.mem.gn, h.mem.g⟩, h.tmps, h.defers⟩
  · simp only [St.more, List.length_append, List.length_replicate] at hi
    by_cases hl : i < st.mem.L.length
    · rw [List.getElem?_append, if_pos hl] at hi
      rcases hi with hi | hi
      · exact h.mem.ln i (.inl hi)
      · omega
    · exact h.mem.ln i (.inr (by omega))
  · simp only [St.more] at hi
    rw [List.getElem?_append] at hi
    split at hi
    · exact h.mem.l i e hi
    · rw [List.getElem?_replicate] at hi
      split at hi
      · cases hi
      · cases hi

theorem rank_le (ops : List Oper) {i : Nat} {o : Oper} (ho : ops[i]? = some o) (hl : lays o = true) : rank ops i < rank ops ops.length := rank_lt ho hl (List.getElem?_eq_some_iff.1 ho).1

theorem ahead_more (ops : List Oper) (l : List Nat) (st : St) : Ahead ops st.mem.L.length l (st.more (rank ops ops.length)).mem := by
  intro i _ o ho hl
  have := rank_le ops ho hl
  simp only [St.more]
  rw [List.getElem?_append, if_neg (by omega), List.getElem?_replicate, if_pos (by omega)]

/-- what a drawn order needs: proved elsewhere -/
def DrawOK (P : Program) (T : Tab) : Prop := ∀ (orc : Orc), (∀ f, COk P f (orc f)) → ∀ (ro : Bool) (id : Nat) (ops : Array Oper) (st st1 : St) (c : Cx) (a : Act), drawOk T ops.toList = true →
  evOps T orc (some (mxOf ro ops.toList)) ops.toList st.mem.L.length (List.range ops.size) (st.more (rank ops.toList ops.toList.length)) = some st1 → Sim c st a →
  ∀ {Q : Exit → Act → World → Prop}, (∀ c' a', Far c c' → Sim c' st1 a' → Q .normal a' c'.w) → (Code.region id ops true).wp P Q a c.w

theorem loop_ok {P : Program} {b : Code} {f : St → Option (Ex × St)} (hf : ∀ (st : St) (ex : Ex) (st1 : St) (c : Cx) (a : Act), f st = some (ex, st1) → Sim c st a → ∀ {Q : Exit → Act → World → Prop}, (∀ c' a', Far c c' → Sim c' st1 a' → Q ex.exit' a' c'.w) → b.wp P Q a c.w) :
    ∀ (n : Nat) (st : St) (ex : Ex) (st1 : St) (c : Cx) (a : Act), loopN n f st = some (ex, st1) → Sim c st a → ∀ {Q : Exit → Act → World → Prop}, (∀ c' a', Far c c' → Sim c' st1 a' → Q ex.exit' a' c'.w) → Code.rounds P b Q n a c.w
  | 0, _, _, _, _, _, h, _, _, _ => by cases h
  | n + 1, st, ex, st1, c, a, h, hs, Q, hQ => by
    rw [rounds_succ]
    simp only [loopN] at h
    split at h
    · rename_i st2 h2
      refine hf st .norm st2 c a h2 hs fun c' a' x hs' => ?_
      exact loop_ok hf n st2 ex st1 c' a' h hs' fun c2 a2 x2 hs2 => hQ c2 a2 (x.trans x2) hs2
    · rename_i hne
      refine hf st ex st1 c a h hs fun c' a' x hs' => ?_
      cases ex with
      | norm => exact absurd h (hne st1)
      | exit id => exact hQ c' a' x hs'
      | goto l => exact hQ c' a' x hs'
      | ret => exact hQ c' a' x hs'

theorem exec_jump_ok {P : Program} {T : Tab} {orc : Orc} (hT : TabOk P T) (hO : ∀ f, COk P f (orc f)) (hD : DrawOK P T) {K : Nat} {H : Nat → List Nat} : ∀ (code : Code), (∀ (st : St) (ex : Ex) (st1 : St) (c : Cx) (a : Act), exec T orc K H code st = some (ex, st1) → Sim c st a →
    ∀ {Q : Exit → Act → World → Prop}, (∀ c' a', Far c c' → Sim c' st1 a' → Q ex.exit' a' c'.w) → code.wp P Q a c.w) ∧
    (∀ (l : Nat) (st : St) (ex : Ex) (st1 : St), jumpK T orc K H l code st = some (ex, st1) → ∃ rest, findLabel code l = some rest ∧ ∀ (c : Cx) (a : Act), Sim c st a →
    ∀ {Q : Exit → Act → World → Prop}, (∀ c' a', Far c c' → Sim c' st1 a' → Q ex.exit' a' c'.w) → rest.wp P Q a c.w) := by
  intro code
  induction code with
  | skip =>
    refine ⟨?_, fun l st ex st1 h => by simp [jumpK] at h⟩
    intro st ex st1 c a h hs Q hQ
    simp only [exec, Option.some.injEq, Prod.mk.injEq] at h
    obtain ⟨rfl, rfl⟩ := h
    exact wp_skip (hQ c a (.refl _) hs)
  | region id ops draw =>
    refine ⟨?_, fun l st ex st1 h => by simp [jumpK] at h⟩
    intro st ex st1 c a h hs Q hQ
    simp only [exec, regionK] at h
    split at h
    · cases h
    · rename_i hd
      split at h
      · rename_i st2 h2
        simp only [Option.some.injEq, Prod.mk.injEq] at h
        obtain ⟨rfl, rfl⟩ := h
        cases draw with
        | false =>
          refine wp_region ?_
          simp only [Array.length_toList, Bool.false_eq_true, if_false] at h2
          refine evOps_ok hT hO (List.range ops.size) _ st2 c a h2 (hs.more _) List.nodup_range (by simpa using ahead_more ops.toList _ st) fun c' a' x hs' => hQ c' a' x.far hs'
        | true =>
          simp only [Bool.true_and, Bool.not_eq_true, Bool.not_eq_false'] at hd
          simp only [Array.length_toList, if_true] at h2
          exact hD orc hO _ id ops st st2 c a hd (by simpa using h2) hs hQ
      · cases h
  | seq x y ihx ihy =>
    obtain ⟨ihx, jx⟩ := ihx
    obtain ⟨ihy, jy⟩ := ihy
    constructor
    · intro st ex st1 c a h hs Q hQ
      simp only [exec] at h
      split at h
      · rename_i st2 h2
        refine wp_seq (ihx st .norm st2 c a h2 hs fun c' a' x hs' => ?_)
        exact ihy st2 ex st1 c' a' h hs' fun c2 a2 x2 hs2 => hQ c2 a2 (x.trans x2) hs2
      · rename_i hne
        refine wp_seq (ihx st ex st1 c a h hs fun c' a' x hs' => ?_)
        cases ex with
        | norm => exact absurd h (hne st1)
        | exit id => exact hQ c' a' x hs'
        | goto l => exact hQ c' a' x hs'
        | ret => exact hQ c' a' x hs'
    · intro l st ex st1 h
      simp only [jumpK] at h
      split at h
      · rename_i hl
        split at h
        · rename_i st2 h2
          obtain ⟨rest, h3, h4⟩ := jx l st .norm st2 h2
          refine ⟨.seq rest y, by simp only [findLabel, h3], fun c a hs Q hQ => ?_⟩
          refine wp_seq (h4 c a hs fun c' a' x hs' => ?_)
          exact ihy st2 ex st1 c' a' h hs' fun c2 a2 x2 hs2 => hQ c2 a2 (x.trans x2) hs2
        · rename_i hne
          obtain ⟨rest, h3, h4⟩ := jx l st ex st1 h
          refine ⟨.seq rest y, by simp only [findLabel, h3], fun c a hs Q hQ => ?_⟩
          refine wp_seq (h4 c a hs fun c' a' x hs' => ?_)
          cases ex with
          | norm => exact absurd h (hne st1)
          | exit id => exact hQ c' a' x hs'
          | goto l => exact hQ c' a' x hs'
          | ret => exact hQ c' a' x hs'
      · rename_i hl
        obtain ⟨rest, h3, h4⟩ := jy l st ex st1 h
        refine ⟨rest, ?_, h4⟩
        simp only [findLabel]
        cases hx : findLabel x l with
        | none => exact h3
        | some r => rw [hx] at hl; simp at hl
  | cond o x y ihx ihy =>
    refine ⟨?_, fun l st ex st1 h => by simp [jumpK] at h⟩
    replace ihx := ihx.1
    replace ihy := ihy.1
    intro st ex st1 c a h hs Q hQ
    simp only [exec] at h
    have hv := opval_ok hs.tmps o
    split at h
    · rename_i ho
      rw [ho] at hv
      generalize he : a.eval o = v at hv
      cases hv with | dat hv => cases hv with | bool =>
      exact wp_cond_true he (ihx st ex st1 c a h hs hQ)
    · rename_i ho
      rw [ho] at hv
      generalize he : a.eval o = v at hv
      cases hv with | dat hv => cases hv with | bool =>
      exact wp_cond_false he (ihy st ex st1 c a h hs hQ)
    · cases h
  | block id b ih =>
    refine ⟨?_, fun l st ex st1 h => by simp [jumpK] at h⟩
    replace ih := ih.1
    intro st ex st1 c a h hs Q hQ
    simp only [exec] at h
    split at h
    · rename_i j st2 h2
      refine wp_block (ih st (.exit j) st2 c a h2 hs fun c' a' x hs' => ?_)
      split at h
      · rename_i hj
        simp only [Option.some.injEq, Prod.mk.injEq] at h
        obtain ⟨rfl, rfl⟩ := h
        subst hj
        simp only [Ex.exit', Exit.inBlock, if_true]
        exact hQ c' a' x hs'
      · rename_i hj
        simp only [Option.some.injEq, Prod.mk.injEq] at h
        obtain ⟨rfl, rfl⟩ := h
        simp only [Ex.exit', Exit.inBlock, if_neg hj]
        exact hQ c' a' x hs'
    · rename_i hne
      refine wp_block (ih st ex st1 c a h hs fun c' a' x hs' => ?_)
      cases ex with
      | norm => exact hQ c' a' x hs'
      | exit id => exact absurd h (hne _ st1)
      | goto l => exact hQ c' a' x hs'
      | ret => exact hQ c' a' x hs'
  | loop b ih =>
    refine ⟨?_, fun l st ex st1 h => by simp [jumpK] at h⟩
    replace ih := ih.1
    intro st ex st1 c a h hs Q hQ
    simp only [exec] at h
    obtain ⟨⟨ex0, st0⟩, h0, h9⟩ := Option.map_eq_some_iff.1 h
    simp only [tidyX, Prod.mk.injEq] at h9
    obtain ⟨rfl, rfl⟩ := h9
    refine wp_loop_rounds K ?_
    refine loop_ok (fun st ex st1 c a h hs Q hQ => ?_) K st ex0 st0 c a h0 hs fun c2 a2 x2 hs2 => by
      obtain ⟨c3, hw3, x3, hs3⟩ := tidy_ok (H (firstRegion b + 1000000)) hs2
      rw [← hw3]
      exact hQ c3 a2 (x2.trans x3) hs3
    obtain ⟨c', hw, x, hs'⟩ := tidy_ok (H (firstRegion b)) hs
    rw [← hw]
    exact ih _ ex st1 c' a h hs' fun c2 a2 x2 hs2 => hQ c2 a2 (x.trans x2) hs2
  | exit id =>
    refine ⟨?_, fun l st ex st1 h => by simp [jumpK] at h⟩
    intro st ex st1 c a h hs Q hQ
    simp only [exec, Option.some.injEq, Prod.mk.injEq] at h
    obtain ⟨rfl, rfl⟩ := h
    exact wp_exit (hQ c a (.refl _) hs)
  | ret =>
    refine ⟨?_, fun l st ex st1 h => by simp [jumpK] at h⟩
    intro st ex st1 c a h hs Q hQ
    simp only [exec, Option.some.injEq, Prod.mk.injEq] at h
    obtain ⟨rfl, rfl⟩ := h
    exact wp_ret (hQ c a (.refl _) hs)
  | label l' =>
    constructor
    · intro st ex st1 c a h hs Q hQ
      simp only [exec, Option.some.injEq, Prod.mk.injEq] at h
      obtain ⟨rfl, rfl⟩ := h
      exact wp_label (hQ c a (.refl _) hs)
    · intro l st ex st1 h
      simp only [jumpK] at h
      split at h
      · rename_i hl
        simp only [Option.some.injEq, Prod.mk.injEq] at h
        obtain ⟨rfl, rfl⟩ := h
        exact ⟨.skip, by simp only [findLabel, hl, if_true], fun c a hs Q hQ => wp_skip (hQ c a (.refl _) hs)⟩
      · cases h
  | goto l' =>
    refine ⟨?_, fun l st ex st1 h => by simp [jumpK] at h⟩
    intro st ex st1 c a h hs Q hQ
    simp only [exec, Option.some.injEq, Prod.mk.injEq] at h
    obtain ⟨rfl, rfl⟩ := h
    exact wp_goto (hQ c a (.refl _) hs)
  | scope b ih =>
    refine ⟨?_, fun l st ex st1 h => by simp [jumpK] at h⟩
    intro st ex st1 c a h hs Q hQ
    simp only [exec] at h
    split at h
    · rename_i l st2 h2
      split at h
      · cases h
      · rename_i hng
        obtain ⟨rest, h3, h4⟩ := ih.2 l st2 ex st1 h
        refine wp_scope_jumps l (fun a' w' => ∃ c', Far c c' ∧ Sim c' st2 a' ∧ w' = c'.w) (fun _ _ => 0) h3 ?_ ?_
        · exact ih.1 st (.goto l) st2 c a h2 hs fun c' a' x hs' => ⟨rfl, c', x, hs', rfl⟩
        · rintro a' w' ⟨c', x, hs', rfl⟩
          refine h4 c' a' hs' fun c2 a2 x2 hs2 => ?_
          cases ex with
          | norm => exact hQ c2 a2 (x.trans x2) hs2
          | exit id => exact hQ c2 a2 (x.trans x2) hs2
          | goto l => exact absurd h (hng _ _)
          | ret => exact hQ c2 a2 (x.trans x2) hs2
    · rename_i hng
      refine wp_scope_straight (ih.1 st ex st1 c a h hs fun c' a' x hs' => ?_)
      cases ex with
      | norm => exact hQ c' a' x hs'
      | exit id => exact hQ c' a' x hs'
      | goto l => exact absurd h (hng _ _)
      | ret => exact hQ c' a' x hs'
  | _ =>
    refine ⟨?_, fun l st ex st1 h => by simp [jumpK] at h⟩
    intro st ex st1 c a h hs Q hQ
    simp only [exec] at h
    cases h

theorem exec_ok {P : Program} {T : Tab} {orc : Orc} (hT : TabOk P T) (hO : ∀ f, COk P f (orc f)) (hD : DrawOK P T) {K : Nat} {H : Nat → List Nat} (code : Code) (st : St) (ex : Ex) (st1 : St) (c : Cx) (a : Act) (h : exec T orc K H code st = some (ex, st1)) (hs : Sim c st a)
    {Q : Exit → Act → World → Prop} (hQ : ∀ c' a', Far c c' → Sim c' st1 a' → Q ex.exit' a' c'.w) : code.wp P Q a c.w := (exec_jump_ok hT hO hD code).1 st ex st1 c a h hs hQ

end Go.Eng
