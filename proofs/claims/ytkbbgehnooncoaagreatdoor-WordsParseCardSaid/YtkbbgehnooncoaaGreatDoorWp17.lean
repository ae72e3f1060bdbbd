/- Code: regions, choices, blocks, loops. -/
import Derived.Test.YtkbbgehnooncoaaGreatDoorWp15
import Derived.Test.YtkbbgehnooncoaaGreatDoorWp1
import Derived.LoopNIn
section
namespace Go.Eng
open Go Go.RowKit
variable [Inhabited Pkg]
set_option linter.unusedSectionVars false

/-- what stays of a call's world while its own names may turn -/
structure Far (c c' : Cx) : Prop where
  os : c'.w.os = c.w.os
  tape : c'.w.tape = c.w.tape
  output : c'.w.output = c.w.output
  size : c.w.heap.size ≤ c'.w.heap.size
  stay : Stay c.w c.lv c'.w c'.lv
  fo : ∀ b, b < c.w.heap.size → c.own b = none → c'.w.heap[b]? = c.w.heap[b]? ∧ c'.own b = none ∧ c'.lv b = c.lv b
  sh : ∀ b s, c.w.shape? b = some s → c'.w.shape? b = some s
  bg : ∀ g b, c.bg g = some b → c'.bg g = some b

theorem Ext.far {c c' : Cx} (x : Ext c c') : Far c c' := ⟨x.os, x.tape, x.output, x.size, x.stay, x.fo, x.sh, x.bg⟩

theorem Far.refl (c : Cx) : Far c c := (Ext.refl c).far

theorem Far.trans {a b c : Cx} (h : Far a b) (k : Far b c) : Far a c where
  os := k.os.trans h.os
  tape := k.tape.trans h.tape
  output := k.output.trans h.output
  size := Nat.le_trans h.size k.size
  stay := h.stay.trans k.stay
  fo := fun x hx hn => by
    obtain ⟨h1, h2, h3⟩ := h.fo x hx hn
    obtain ⟨k1, k2, k3⟩ := k.fo x (Nat.lt_of_lt_of_le hx h.size) h2
    exact ⟨k1.trans h1, k2, k3.trans h3⟩
  sh := fun b s hs => k.sh b s (h.sh b s hs)
  bg := fun g b hg => k.bg g b (h.bg g b hg)

/-- the mark of a range over a function among the calls put off -/
def mark (D : Nat) : Deferred := { target := .collected D, args := #[] }

/-- the calls put off, since: marks -/
def Marks (c : Cx) (ds : List Deferred) (c' : Cx) (ds' : List Deferred) : Prop :=
  ∃ ms : List Nat, ds' = ms.map mark ++ ds ∧ ms.Nodup ∧ ∀ D ∈ ms, c.w.heap.size ≤ D ∧ D < c'.w.heap.size ∧ c'.w.heap[D]? = some (.deferred (some [])) ∧ c'.own D = none

structure FarM (c : Cx) (ds : List Deferred) (c' : Cx) (ds' : List Deferred) : Prop where
  far : Far c c'
  marks : Marks c ds c' ds'

theorem Far.m {c c' : Cx} {ds : List Deferred} (x : Far c c') : FarM c ds c' ds := ⟨x, [], rfl, List.nodup_nil, fun _ h => by simp at h⟩

theorem FarM.refl (c : Cx) (ds : List Deferred) : FarM c ds c ds := (Far.refl c).m

theorem FarM.trans {a b c : Cx} {d1 d2 d3 : List Deferred} (h : FarM a d1 b d2) (k : FarM b d2 c d3) : FarM a d1 c d3 := by
  obtain ⟨hf, ms1, e1, n1, h1⟩ := h
  obtain ⟨kf, ms2, e2, n2, h2⟩ := k
  refine ⟨hf.trans kf, ms2 ++ ms1, by rw [e2, e1]; simp, ?_, fun D hD => ?_⟩
  · rw [List.nodup_append]
    refine ⟨n2, n1, fun x hx y hy e => ?_⟩
    subst e
    have := (h2 x hx).1
    have := (h1 x hy).2.1
    omega
  · rcases List.mem_append.1 hD with hD | hD
    · obtain ⟨q1, q2, q3, q4⟩ := h2 D hD
      exact ⟨Nat.le_trans hf.size q1, q2, q3, q4⟩
    · obtain ⟨q1, q2, q3, q4⟩ := h1 D hD
      obtain ⟨z1, z2, _⟩ := kf.fo D q2 q4
      exact ⟨q1, Nat.lt_of_lt_of_le q2 kf.size, z1.trans q3, z2⟩

/-! ### the head of a loop -/

theorem addAll_nodup : ∀ (l acc : List Nat), acc.Nodup → (addAll acc l).Nodup
  | [], acc, h => h
  | i :: r, acc, h => by
    unfold addAll
    refine addAll_nodup r _ ?_
    split
    · exact h
    · rename_i hc
      have : i ∉ acc := by simpa using hc
      rw [List.nodup_append]
      exact ⟨h, by simp, fun a ha b hb e => by simp at hb; subst hb; subst e; exact this ha⟩

theorem reach_nodup (L : List (Option Ent)) : ∀ (n : Nat) (acc : List Nat), acc.Nodup → (reach L n acc).Nodup
  | 0, acc, h => h
  | n + 1, acc, h => by
    unfold reach
    exact reach_nodup L n _ (addAll_nodup _ _ h)

theorem idxOf_get {ks : List Nat} (h : ks.Nodup) {j i : Nat} (hj : ks[j]? = some i) : ks.idxOf? i = some j := by
  induction ks generalizing j with
  | nil => simp at hj
  | cons k r ih =>
    obtain ⟨h1, h2⟩ := List.nodup_cons.1 h
    rw [List.idxOf?_cons]
    cases j with
    | zero =>
      simp only [List.getElem?_cons_zero, Option.some.injEq] at hj
      subst hj
      simp
    | succ j =>
      simp only [List.getElem?_cons_succ] at hj
      have hne : k ≠ i := fun e => h1 (e ▸ List.mem_of_getElem? hj)
      simp [hne, ih h2 hj]

theorem get_idxOf {ks : List Nat} {j i : Nat} (h : ks.idxOf? i = some j) : ks[j]? = some i := by
  induction ks generalizing j with
  | nil => simp at h
  | cons k r ih =>
    rw [List.idxOf?_cons] at h
    split at h
    · rename_i he
      injection h with h
      subst h
      simp at he
      simp [he]
    · cases hr : r.idxOf? i with
      | none => rw [hr] at h; cases h
      | some j' =>
        rw [hr] at h
        simp only [Option.map_some, Option.some.injEq] at h
        subst h
        simpa using ih hr

/-- names turned: ks lists what is kept -/
def Cx.ren (c : Cx) (ks : List Nat) : Cx :=
  { w := c.w, lv := c.lv,
    own := fun b => match c.own b with
      | some (.lent i) => (ks.idxOf? i).map .lent
      | o => o
    bl := fun j => (ks[j]?).bind c.bl
    bg := c.bg
    rl := fun j => match ks[j]? with
      | some i => c.rl i
      | none => 0
    ep := 0 }

theorem Cx.ren_far (c : Cx) (ks : List Nat) : Far c (c.ren ks) :=
  ⟨rfl, rfl, rfl, Nat.le_refl _, .refl _ _, fun b _ hn => ⟨rfl, by simp [Cx.ren, hn], rfl⟩, fun _ _ h => h, fun _ _ h => h⟩

theorem ren_ok {c : Cx} {m : Mem} (hm : MemOk c m) {ks : List Nat} {i : Nat} {r : Ref} (h : renOf m.L ks i = some r) :
    (∃ j, r = .loc j ∧ ks[j]? = some i) ∨ (∃ g, r = .glob g ∧ ∃ b, c.bl i = some b ∧ c.bg g = some b) := by
  unfold renOf at h
  split at h
  · rename_i g hg
    injection h with h
    obtain ⟨b, h1, h2⟩ := hm.l _ _ hg
    exact .inr ⟨g, h.symm, b, h1, h2⟩
  · split at h
    · rename_i j hj
      injection h with h
      exact .inl ⟨j, h.symm, get_idxOf hj⟩
    · cases h

theorem ren0_ok {c : Cx} {m : Mem} (hm : MemOk c m) (ks : List Nat) {a : AV} {v : Value} (h : VL c a v) : VL (c.ren ks) (ren0 (renOf m.L ks) a) v := by
  unfold ren0
  split
  · cases h with | dat h => exact .dat h
  · cases h; exact .undef
  · cases h; exact .nilp
  · cases h; exact .nilfn
  · cases h; exact .nili
  · cases h; exact .err _ _
  · cases h with
    | fn hl hh => exact .fn hl (by simp)
  · cases h with
    | yld hb => exact .yld hb
  · split
    · rename_i j hj
      rcases ren_ok hm hj with ⟨j', e, hk⟩ | ⟨g, e, _⟩
      · injection e with e
        subst e
        cases h with
        | sh hb hl hs => exact .sh (by simp [Cx.ren, hk, hb]) (by simp only [Cx.ren, hk]; exact hl) hs
      · cases e
    · exact .dead v
  · split
    · rename_i r hr
      rcases ren_ok hm hr with ⟨j', rfl, hk⟩ | ⟨g, rfl, b, h1, h2⟩
      · cases h with
        | ptrl hb => exact .ptrl (by simp [Cx.ren, hk, hb])
      · cases h with
        | ptrl hb =>
          rw [h1] at hb
          injection hb with hb
          subst hb
          exact .ptrg h2
    · exact .dead v
  · cases h with
    | ptrg hb => exact .ptrg hb
  · exact .dead v

theorem ren1_ok {c : Cx} {m : Mem} (hm : MemOk c m) (ks : List Nat) {a : AV} {v : Value} (h : VL c a v) : VL (c.ren ks) (ren1 (renOf m.L ks) a) v := by
  unfold ren1
  split
  · cases h with
    | agg hl hh =>
      refine .agg (by simpa using hl) fun j a ha v hv => ?_
      rw [List.getElem?_map] at ha
      obtain ⟨a', h1, rfl⟩ := Option.map_eq_some_iff.1 ha
      exact ren0_ok hm ks (hh j a' h1 v hv)
  · cases h with
    | fn hl hh =>
      refine .fn (by simpa using hl) fun j a ha v hv => ?_
      rw [List.getElem?_map] at ha
      obtain ⟨a', h1, rfl⟩ := Option.map_eq_some_iff.1 ha
      exact ren0_ok hm ks (hh j a' h1 v hv)
  · exact ren0_ok hm ks h

theorem afterT_ok {c : Cx} (keep : List Nat) : ∀ (i : Nat) (as bs : List AV) (vs : List Value), All2 (VL c) as vs → All2 (VL c) bs vs → All2 (VL c) (afterT keep i as bs) vs
  | _, [], [], [], _, _ => trivial
  | i, a :: r, b :: s, v :: u, h, k => by
    refine ⟨?_, afterT_ok keep (i + 1) r s u h.2 k.2⟩
    split
    · exact k.1
    · exact h.1
  | _, [], _ :: _, [], _, k => k.elim
  | _, [], _, _ :: _, h, _ => h.elim
  | _, _ :: _, _, [], h, _ => h.elim
  | _, _ :: _, [], _ :: _, _, k => k.elim
theorem killBut_ok {c : Cx} (keep : List Nat) : ∀ (i : Nat) (ts : List AV) (vs : List Value), All2 (VL c) ts vs → All2 (VL c) (killBut keep i ts) vs
  | _, [], [], _ => trivial
  | i, a :: r, v :: s, h => by
    refine ⟨?_, killBut_ok keep (i + 1) r s h.2⟩
    split
    · exact h.1
    · exact .dead v
  | _, [], _ :: _, h => h.elim
  | _, _ :: _, [], h => h.elim

/-- what is kept of entity i -/
def keptEnt (L : List (Option Ent)) (ks : List Nat) (i : Nat) : Option Ent :=
  match L[i]? with
  | some (some e) => some (renE (renOf L ks) e)
  | _ => none

variable {ds : List Deferred}

theorem tidy_ok {c : Cx} {st : St} {a : Act} (keep : List Nat) (h : Sim ds c st a) : ∃ c', c'.w = c.w ∧ Far c c' ∧ Sim ds c' (tidy keep st) a := by
  obtain ⟨ks, hks⟩ : ∃ ks, ks = (reach st.mem.L 3 (addAll [] ((killBut keep 0 st.tmps).flatMap locs1))).filter fun i => !isFwd st.mem.L[i]? := ⟨_, rfl⟩
  have hnd : ks.Nodup := by
    rw [hks]
    exact (reach_nodup _ _ _ (addAll_nodup _ _ List.nodup_nil)).filter _
  have hnf : ∀ i ∈ ks, isFwd st.mem.L[i]? = false := fun i hi => by
    rw [hks] at hi
    simpa using (List.mem_filter.1 hi).2
  have hm := h.mem
  have ht : tidy keep st = ⟨(killBut keep 0 st.tmps).map (ren1 (renOf st.mem.L ks)), ⟨ks.map (keptEnt st.mem.L ks), st.mem.G, 0⟩⟩ := by rw [hks]; rfl
  have hg : ∀ b who, who.isG = true → c.own b = some who → (c.ren ks).own b = some who := by
    intro b who hw ho
    simp only [Cx.ren, ho]
    cases who <;> first | rfl | cases hw
  have hwf : WF (c.ren ks) := ⟨hm.wf.lv, fun b hb => by simp [Cx.ren, hm.wf.own b hb], hm.wf.pk⟩
  refine ⟨c.ren ks, rfl, c.ren_far ks, ⟨?_, ?_, h.defers⟩⟩
  · rw [ht]
    refine ⟨hwf, rfl, fun j hj => ?_, fun j e hj => ?_, hm.gn, fun g e hge => GOk.cx (c := c) rfl rfl rfl hg (hm.g g e hge)⟩
    · simp only [List.length_map, List.getElem?_map] at hj
      show (ks[j]?).bind c.bl = none
      cases hk : ks[j]? with
      | none => rfl
      | some i =>
        simp only [Option.bind_some]
        rw [hk] at hj
        rcases hj with hj | hj
        · simp only [Option.map_some, Option.some.injEq, keptEnt] at hj
          split at hj
          · cases hj
          · rename_i hne
            cases hl : st.mem.L[i]? with
            | none => exact hm.ln i (.inr (by simpa using hl))
            | some o =>
              cases o with
              | none => exact hm.ln i (.inl hl)
              | some e => exact absurd hl (hne e)
        · have := (List.getElem?_eq_some_iff.1 hk).1
          omega
    · simp only [List.getElem?_map] at hj
      obtain ⟨i, hk, hj⟩ := Option.map_eq_some_iff.1 hj
      unfold keptEnt at hj
      split at hj
      · rename_i e0 he0
        injection hj with hj
        subst hj
        have hok := hm.l i e0 he0
        have hown : ∀ b, c.own b = some (.lent i) → (c.ren ks).own b = some (.lent j) := fun b ho => by simp [Cx.ren, ho, idxOf_get hnd hk]
        cases e0 with
        | obj cs =>
          obtain ⟨b, cur, ty, h1, h2, h3, h4, h5⟩ := hok
          refine ⟨b, cur, ty, by simp [Cx.ren, hk, h1], h2, hown b h3, h4, by simpa using h5.1, fun k a ha => ?_⟩
          rw [List.getElem?_map] at ha
          obtain ⟨a', q1, rfl⟩ := Option.map_eq_some_iff.1 ha
          obtain ⟨v, q2, q3⟩ := h5.2 k a' q1
          exact ⟨v, q2, ren0_ok hm ks q3⟩
        | row md sz xs =>
          obtain ⟨b, cap, h1, h2, h3⟩ := hok
          refine ⟨b, cap, by simp [Cx.ren, hk, h1], by simp [Cx.ren, hk, h2], ?_⟩
          cases md with
          | ro => exact h3
          | own => exact RowOk.cx (c := c) rfl rfl (hown b (RowOk.own h3)) h3
          | excl => exact RowOk.cx (c := c) rfl rfl (hown b (RowOk.own h3)) h3
        | fwd g =>
          have := hnf i (List.mem_of_getElem? hk)
          rw [he0] at this
          simp [isFwd] at this
        | lrec => exact hok.elim
        | gone => trivial
      · cases hj
  · rw [ht]
    have := killBut_ok keep 0 _ _ h.tmps
    refine All2.of (by simpa using this.length) fun j a ha v hv => ?_
    rw [List.getElem?_map] at ha
    obtain ⟨a', q1, rfl⟩ := Option.map_eq_some_iff.1 ha
    obtain ⟨v', q2, q3⟩ := this.get j a' q1
    rw [hv] at q2
    injection q2 with q2
    rw [q2]; exact ren1_ok hm ks q3

/-! ### code -/

def Ex.exit' : Ex → Exit
  | .norm => .normal
  | .exit id => .exit id
  | .goto l => .goto l
  | .ret => .ret

/-- room for what a region lays -/
theorem Sim.more {c : Cx} {st : St} {a : Act} (h : Sim ds c st a) (n : Nat) : Sim ds c (st.more n) a := by
  refine ⟨⟨h.mem.wf, h.mem.ep, fun i hi => ?_, fun i e hi => ?_, h.mem.gn, h.mem.g⟩, h.tmps, h.defers⟩
  · simp only [St.more, List.length_append, List.length_replicate] at hi
    by_cases hl : i < st.mem.L.length
    · rw [List.getElem?_append, if_pos hl] at hi
      rcases hi with hi | hi
      · exact h.mem.ln i (.inl hi)
      · omega
    · exact h.mem.ln i (.inr (by omega))
  · simp only [St.more] at hi
    rw [List.getElem?_append] at hi
    split at hi
    · exact h.mem.l i e hi
    · rw [List.getElem?_replicate] at hi
      split at hi
      · cases hi
      · cases hi

theorem rank_le (ops : List Oper) {i : Nat} {o : Oper} (ho : ops[i]? = some o) (hl : lays o = true) : rank ops i < rank ops ops.length := rank_lt ho hl (List.getElem?_eq_some_iff.1 ho).1

theorem ahead_more (ops : List Oper) (l : List Nat) (st : St) : Ahead ops st.mem.L.length l (st.more (rank ops ops.length)).mem := by
  intro i _ o ho hl
  have := rank_le ops ho hl
  simp only [St.more]
  rw [List.getElem?_append, if_neg (by omega), List.getElem?_replicate, if_pos (by omega)]

/-- what a drawn order needs: proved elsewhere -/
def DrawOK (P : Program) (T : Tab) : Prop := ∀ (ds : List Deferred) (orc : Orc), (∀ f, COk P f (orc f)) → ∀ (rb : Bool) (id : Nat) (ops : Array Oper) (st st1 : St) (c : Cx) (a : Act), drawOk T ops.toList = true →
  evOps T orc (some (mxOf rb ops.toList)) ops.toList st.mem.L.length (List.range ops.size) (st.more (rank ops.toList ops.toList.length)) = some st1 → Sim ds c st a →
  ∀ {ro : Option Nat} {n : Nat} {Q : Exit → Act → World → Prop}, (∀ c' a', Far c c' → Sim ds c' st1 a' → Q .normal a' c'.w) → (Code.region id ops true).wpIn (wF ro) n P Q a c.w

theorem loop_ok {P : Program} {ro : Option Nat} {k : Nat} {b : Code} {f : St → Option (Ex × St)} (hf : ∀ (ds : List Deferred) (st : St) (ex : Ex) (st1 : St) (c : Cx) (a : Act), f st = some (ex, st1) → Sim ds c st a → ∀ {Q : Exit → Act → World → Prop}, (∀ ds' c' a', FarM c ds c' ds' → Sim ds' c' st1 a' → Q ex.exit' a' c'.w) → b.wpIn (wF ro) k P Q a c.w) :
    ∀ (n : Nat) (ds : List Deferred) (st : St) (ex : Ex) (st1 : St) (c : Cx) (a : Act), loopN n f st = some (ex, st1) → Sim ds c st a → ∀ {Q : Exit → Act → World → Prop}, (∀ ds' c' a', FarM c ds c' ds' → Sim ds' c' st1 a' → Q ex.exit' a' c'.w) → Code.roundsIn (wF ro) k P b Q n a c.w
  | 0, _, _, _, _, _, _, h, _, _, _ => by cases h
  | n + 1, ds, st, ex, st1, c, a, h, hs, Q, hQ => by
    rw [roundsIn_succ]
    simp only [loopN] at h
    split at h
    · rename_i st2 h2
      refine hf ds st .norm st2 c a h2 hs fun ds' c' a' x hs' => ?_
      exact loop_ok hf n ds' st2 ex st1 c' a' h hs' fun d2 c2 a2 x2 hs2 => hQ d2 c2 a2 (x.trans x2) hs2
    · rename_i hne
      refine hf ds st ex st1 c a h hs fun ds' c' a' x hs' => ?_
      cases ex with
      | norm => exact absurd h (hne st1)
      | exit id => exact hQ ds' c' a' x hs'
      | goto l => exact hQ ds' c' a' x hs'
      | ret => exact hQ ds' c' a' x hs'

/-- a jump that is taken up -/
theorem wpIn_jump {P : Program} {ro : Option Nat} {k : Nat} {Q : Exit → Act → World → Prop} {a : Act} {w : World} (x : Ex) (h : Q x.exit' a w) : x.code.wpIn (wF ro) k P Q a w := by
  cases x with
  | norm => exact wpIn_skip h
  | exit id => exact wpIn_exit h
  | goto l => exact wpIn_goto h
  | ret => exact wpIn_ret h

/-- **A range over a function.** -/
theorem range_ok {P : Program} {orc : Orc} (hO : ∀ f, COk P f (orc f)) {ds : List Deferred} {keep : List Nat} {st : St} {c : Cx} {a : Act} {f : Operand} {ps : Array Tmp} {asg body : Code} {ts caps : List AV} {m1 : Mem} {g : FuncId} {r : AV} {G2 : List Ent} {s : LS} {ts2 : List AV} {ps2 : List Nat} {asg2 body2 : Code} {k : Nat}
    (hs : Sim ds c st a) (h1 : mapS passT st.mem (killBut keep 0 st.tmps) = some (ts, m1)) (hf : opval ts f = .fn g caps) (hlt : g < yB) (hc : orc g (.yld m1.G.length :: caps) (m1.G ++ [.lrec .ready ts ps.toList asg body]) = some (r, G2))
    (hg2 : G2[m1.G.length]? = some (.lrec s ts2 ps2 asg2 body2)) (hb : s ≠ .busy) {Q : Exit → Act → World → Prop}
    (hQ : ∀ ds' c' a', FarM c ds c' ds' → Sim ds' c' ⟨afterT keep 0 st.tmps ts, { m1 with G := G2.set m1.G.length .gone, ep := m1.ep + 1 }⟩ a' → match s.pend with
      | none => Q .normal a' c'.w
      | some j => j.wpIn (wF none) k P Q a' c'.w) : (Code.rangeFunc f ps asg body).wpIn (wF none) k P Q a c.w := by
  obtain ⟨c1, gh, hm1, hts⟩ := mapS_passT h1 hs.mem (killBut_ok keep 0 _ _ hs.tmps)
  have hw1 : c1.w = c.w := gh.w
  refine wpIn_rangeFunc fun fn _ => ?_
  obtain ⟨cD, hcD⟩ : ∃ cD, cD = c1.newO (.deferred (some [])) none := ⟨_, rfl⟩
  obtain ⟨rc, hrc⟩ : ∃ rc : Loop, rc = { state := .ready, pending := none, fn, tmps := a.tmps, params := ps, assign := asg, body, defers := c1.w.heap.size } := ⟨_, rfl⟩
  obtain ⟨cL, hcL⟩ : ∃ cL, cL = cD.newO (.loop rc) (some m1.G.length) := ⟨_, rfl⟩
  have wfD : WF cD := by rw [hcD]; exact newO_wf hm1.wf
  have hszD : cD.w.heap.size = c1.w.heap.size + 1 := by rw [hcD]; exact newO_size
  have xD : Ext c1 cD := by rw [hcD]; exact newO_ext hm1.wf fun _ h => by cases h
  have hbg : cD.bg m1.G.length = none := by rw [hcD]; exact hm1.gn _ (Nat.le_refl _)
  have xL : Ext cD cL := by rw [hcL]; exact newO_ext wfD fun j h => by injection h with h; subst h; exact hbg
  have wfL : WF cL := by rw [hcL]; exact newO_wf wfD
  have x1L : Ext c1 cL := xD.trans xL
  have s1L : ∀ who, Same c1 cL who := fun who => by
    rw [hcL]
    refine Same.trans ?_ (newO_same wfD who)
    rw [hcD]; exact newO_same hm1.wf who
  have hbgL : cL.bg m1.G.length = some cD.w.heap.size := by rw [hcL]; simp [Cx.newO]
  have hrecL : cL.w.heap[cD.w.heap.size]? = some (.loop rc) := by rw [hcL]; exact newO_new
  have hownL : cL.own cD.w.heap.size = some (.gobj m1.G.length) := by rw [hcL]; simp [Cx.newO]
  have hmL : MemOk cL { m1 with G := m1.G ++ [.lrec .ready ts ps.toList asg body] } := by
    refine hm1.of x1L wfL ?_ (fun i e hi => .inl ⟨hi, s1L _⟩) (fun i hi => ?_) (fun g' e he => ?_) (fun g' hg' => ?_)
    · rw [hcL, hcD]; exact hm1.ep
    · rw [hcL, hcD]; exact hm1.ln i hi
    · simp only [List.getElem?_append] at he
      split at he
      · exact .inl ⟨he, s1L _, fun _ => s1L _⟩
      · rename_i hge
        have hi := (List.getElem?_eq_some_iff.1 he).1
        simp only [List.length_cons, List.length_nil] at hi
        have he0 : g' = m1.G.length := by omega
        subst he0
        simp only [Nat.sub_self, List.getElem?_cons_zero, Option.some.injEq] at he
        subst he
        refine .inr ⟨cD.w.heap.size, rc, hbgL, hrecL, hownL, by rw [hcL]; exact wfD.lv _ (Nat.le_refl _), by rw [hrc]; rfl, by rw [hrc], by rw [hrc], by rw [hrc], fun _ => by rw [hrc]; rfl, by rw [hrc]; simpa using hts.length, fun j x hx => ?_⟩
        obtain ⟨v, q1, q2, q3⟩ := hts.get j x hx
        exact ⟨q3, v, by rw [hrc]; simpa using q1, q2.ext x1L⟩
    · simp only [List.length_append, List.length_cons, List.length_nil] at hg'
      rw [hcL, hcD]
      have : g' ≠ m1.G.length := by omega
      simp only [Cx.newO, if_neg this]
      exact hm1.gn g' (by omega)
  -- the function that is ranged over
  have hfv := opval_ok hm1.wf (hts.mono fun a v h => h.1) f
  rw [hf] at hfv
  have htf : tclean (.fn g caps) = true := by
    unfold opval at hf
    split at hf
    · rename_i t
      have : t < ts.length := by
        rcases Nat.lt_or_ge t ts.length with h | h
        · exact h
        · rw [List.getD_eq_getElem?_getD, List.getElem?_eq_none h] at hf; cases hf
      rw [List.getD_eq_getElem?_getD, List.getElem?_eq_getElem this, Option.getD_some] at hf
      obtain ⟨_, _, _, q⟩ := hts.get t ts[t] (by simp [this])
      rw [hf] at q
      exact q
    · rename_i v
      unfold constV at hf
      split at hf <;> cases hf
    · injection hf with _ hf
      subst hf
      rfl
    · unfold globV at hf
      split at hf <;> cases hf
  generalize hev : a.eval f = fv at hfv
  cases hfv with
  | @fn _ _ vs hl hh =>
    have hcaps : All2 (fun a v => VL cL a v ∧ pclean1 a = true) caps vs.toList := by
      refine All2.of (by simpa using hl) fun j x hx v hv => ?_
      refine ⟨(hh j x hx v (by simpa using hv)).ext x1L, ?_⟩
      simp only [tclean, pclean1, List.all_eq_true] at htf
      have := htf x (List.mem_of_getElem? hx)
      cases x <;> first | exact this | (simp [pclean] at this)
    have hall : All2 (fun a v => VL cL.enter a v ∧ pclean1 a = true) (.yld m1.G.length :: caps) (#[Value.func (.yield cD.w.heap.size) #[] #[]] ++ vs).toList := by
      rw [Array.toList_append]
      exact ⟨⟨.yld hbgL, rfl⟩, hcaps.mono fun a v h => ⟨VL.pclean1 (c := cL) (c' := cL.enter) rfl rfl rfl h.2 h.1, h.2⟩⟩
    obtain ⟨⟨fn', e1, e2, e3⟩, hcalls⟩ := (hO g cL.enter _ _ _ r G2 hc (enter_ok hmL) hall).1 hlt
    have hwL : cL.w = (c.w.alloc (.deferred (some []))).alloc (.loop { state := .ready, pending := none, fn, tmps := a.tmps, params := ps, assign := asg, body, defers := c.w.heap.size }) := by
      rw [hcL, hcD, hrc]
      simp only [Cx.newO, hw1]
    refine ⟨cD.w.heap.size, [mark c.w.heap.size], cL.w, { target := .fn (.func g) vs, args := #[.func (.yield cD.w.heap.size) #[] #[]] }, cL.w, g, #[Value.func (.yield cD.w.heap.size) #[] #[]] ++ vs, cL.w, ?_, ?_, fun _ _ => trivial, ?_, fun h => (by cases h), callsIn_wF ?_⟩
    · rw [hwL, hszD, hw1]
      exact run_enterLoop_outer fn a.tmps ps asg body
    · simp only [rangeCall, resolve, hev, Deferred.ofValue, Sem.run_pure]
      simp [Act.eval]
    · simp only [invoke, callFunc, Sem.run_bind, run_program, e1, e2, e3, Bool.false_eq_true, if_false, Sem.run_pure, Result.andThen_ok]
    · refine hcalls.mono fun e w' he => ?_
      cases e with
      | panicked ch => exact he.elim
      | outgrown => exact he.elim
      | returned v =>
        obtain ⟨c3, hw3, x3, hG3, _⟩ := he
        have L : Left cL c3 none := ⟨x3, hG3.wf, wfL, fun b0 i0 n e => by cases e⟩
        obtain ⟨c4, hc4⟩ : ∃ c4, c4 = cL.leave c3 none := ⟨_, rfl⟩
        have hm4 : MemOk c4 { m1 with G := G2, ep := m1.ep + 1 } := by rw [hc4]; exact L.mem hmL hG3
        have xL4 : Ext cL c4 := by rw [hc4]; exact L.ext
        have hw4 : c4.w = w' := by rw [hc4]; exact hw3
        obtain ⟨l', rc', z1, z2, z3, z4, z5, z6, z7, z8, z9, z10, z11⟩ := hm4.g _ _ hg2
        have hl' : l' = cD.w.heap.size := by
          have := xL4.bg _ _ hbgL
          rw [this] at z1
          injection z1 with z1; exact z1.symm
        subst hl'
        have hnb : rc'.state ≠ .busy := by
          rw [z5]
          cases s <;> first | exact absurd rfl hb | (simp [LS.state])
        have hpend : rc'.pending = s.pend := z9 hb
        obtain ⟨c5, hc5⟩ : ∃ c5, c5 = c4.putO cD.w.heap.size (.loop { rc' with state := .exhausted }) := ⟨_, rfl⟩
        have x45 : Ext c4 c5 := by rw [hc5]; exact putO_ext z2 rfl rfl (by rw [z3]; simp)
        have hm5 : MemOk c5 { m1 with G := G2.set m1.G.length .gone, ep := m1.ep + 1 } := by
          have sm : ∀ who, who ≠ .gobj m1.G.length → Same c4 c5 who := fun who hw => by
            rw [hc5]; exact putO_same (by rw [z3]; intro e; injection e with e; exact hw e.symm)
          refine hm4.of x45 (by rw [hc5]; exact putO_wf hm4.wf (by rw [← hc5]; exact x45)) (by rw [hc5]; exact hm4.ep) (fun i e hi => .inl ⟨hi, sm _ (by simp)⟩) (fun i hi => by rw [hc5]; exact hm4.ln i hi) (fun g' e he => ?_) (fun g' hg' => ?_)
          · simp only [List.getElem?_set] at he
            split at he
            · rename_i hg0
              subst hg0
              split at he
              · simp only [Option.some.injEq] at he
                subst he
                exact .inr ⟨cD.w.heap.size, x45.bg _ _ z1, by rw [hc5]; exact z3⟩
              · cases he
            · rename_i hg0
              exact .inl ⟨he, sm _ (by simpa using fun e => hg0 e.symm), fun j => sm _ (by simp)⟩
          · simp only [List.length_set] at hg'
            rw [hc5]; exact hm4.gn g' hg'
        have hD : c1.w.heap.size < cL.w.heap.size := by
          have h9 : cL.w.heap.size = cD.w.heap.size + 1 := by rw [hcL]; exact newO_size
          rw [h9, hszD]; omega
        have hDL : cL.w.heap[c1.w.heap.size]? = some (.deferred (some [])) ∧ cL.own c1.w.heap.size = none := by
          constructor
          · rw [hcL, newO_heap (by rw [hszD]; omega), hcD]; exact newO_new
          · rw [hcL, newO_own (by rw [hszD]; omega), hcD]
            exact hm1.wf.own _ (Nat.le_refl _)
        obtain ⟨q1, q2, _⟩ := xL4.fo _ hD hDL.2
        have hne : c1.w.heap.size ≠ cD.w.heap.size := by rw [hszD]; omega
        have hfar : FarM c ds c5 (mark c.w.heap.size :: ds) := by
          refine ⟨(gh.ext.trans (x1L.trans (xL4.trans x45))).far, [c.w.heap.size], rfl, by simp, fun D hD0 => ?_⟩
          simp only [List.mem_singleton] at hD0
          subst hD0
          rw [← hw1]
          refine ⟨Nat.le_refl _, Nat.lt_of_lt_of_le hD (Nat.le_trans xL4.size x45.size), ?_, ?_⟩
          · rw [hc5, putO_heap hne, q1]; exact hDL.1
          · rw [hc5]; exact q2
        have hsim : Sim (mark c.w.heap.size :: ds) c5 ⟨afterT keep 0 st.tmps ts, { m1 with G := G2.set m1.G.length .gone, ep := m1.ep + 1 }⟩ { a with defers := [mark c.w.heap.size] ++ a.defers } :=
          ⟨hm5, afterT_ok keep 0 _ _ _ (hs.tmps.mono fun a v h => h.ext (gh.ext.trans (x1L.trans (xL4.trans x45)))) (hts.mono fun a v h => h.1.ext (x1L.trans (xL4.trans x45))), by rw [hs.defers]; rfl⟩
        refine ⟨rc'.pending, c5.w, ?_, ?_⟩
        · rw [← hw4, hc5]
          exact run_endLoop z2 hnb
        · have := hQ _ _ _ hfar hsim
          rw [hpend]
          cases hp : s.pend with
          | none => rw [hp] at this; exact this
          | some j => rw [hp] at this; exact this

theorem exec_jump_ok {P : Program} {T : Tab} {orc : Orc} (hT : TabOk P T) (hO : ∀ f, COk P f (orc f)) (hD : DrawOK P T) {K : Nat} {H : Nat → List Nat} {ro : Option Nat} {k : Nat} : ∀ (code : Code), (ro = none ∨ plainC code = true) → (∀ (ds : List Deferred) (st : St) (ex : Ex) (st1 : St) (c : Cx) (a : Act), exec T orc K H code st = some (ex, st1) → Sim ds c st a →
    ∀ {Q : Exit → Act → World → Prop}, (∀ ds' c' a', FarM c ds c' ds' → Sim ds' c' st1 a' → Q ex.exit' a' c'.w) → code.wpIn (wF ro) k P Q a c.w) ∧
    (∀ (l : Nat) (st : St) (ex : Ex) (st1 : St), ro = none → jumpK T orc K H l code st = some (ex, st1) → ∃ rest, findLabel code l = some rest ∧ ∀ (ds : List Deferred) (c : Cx) (a : Act), Sim ds c st a →
    ∀ {Q : Exit → Act → World → Prop}, (∀ ds' c' a', FarM c ds c' ds' → Sim ds' c' st1 a' → Q ex.exit' a' c'.w) → rest.wpIn (wF none) k P Q a c.w) := by
  intro code
  induction code with
  | skip =>
    refine fun _ => ⟨?_, fun l st ex st1 _ h => by simp [jumpK] at h⟩
    intro ds st ex st1 c a h hs Q hQ
    simp only [exec, Option.some.injEq, Prod.mk.injEq] at h
    obtain ⟨rfl, rfl⟩ := h
    exact wpIn_skip (hQ ds c a (.refl _ _) hs)
  | region id ops draw =>
    refine fun _ => ⟨?_, fun l st ex st1 _ h => by simp [jumpK] at h⟩
    intro ds st ex st1 c a h hs Q hQ
    simp only [exec, regionK, forceO_eq] at h
    split at h
    · cases h
    · rename_i hd
      split at h
      · rename_i st2 h2
        simp only [Option.some.injEq, Prod.mk.injEq] at h
        obtain ⟨rfl, rfl⟩ := h
        cases draw with
        | false =>
          refine wpIn_region ?_
          simp only [Array.length_toList, Bool.false_eq_true, if_false] at h2
          refine evOps_ok hT hO (List.range ops.size) _ st2 c a h2 (hs.more _) List.nodup_range (by simpa using ahead_more ops.toList _ st) fun c' a' x hs' => hQ ds c' a' x.far.m hs'
        | true =>
          simp only [Bool.true_and, Bool.not_eq_true, Bool.not_eq_false'] at hd
          simp only [Array.length_toList, if_true] at h2
          exact hD ds orc hO _ id ops st st2 c a hd (by simpa using h2) hs fun c' a' x hs' => hQ ds c' a' x.m hs'
      · cases h
  | seq x y ihx ihy =>
    intro hp
    have hpx : ro = none ∨ plainC x = true := hp.imp id fun h => by simp only [plainC, Bool.and_eq_true] at h; exact h.1
    have hpy : ro = none ∨ plainC y = true := hp.imp id fun h => by simp only [plainC, Bool.and_eq_true] at h; exact h.2
    obtain ⟨ihx, jx⟩ := ihx hpx
    obtain ⟨ihy, jy⟩ := ihy hpy
    constructor
    · intro ds st ex st1 c a h hs Q hQ
      simp only [exec] at h
      split at h
      · rename_i st2 h2
        refine wpIn_seq (ihx ds st .norm st2 c a h2 hs fun ds' c' a' x hs' => ?_)
        exact ihy ds' st2 ex st1 c' a' h hs' fun d2 c2 a2 x2 hs2 => hQ d2 c2 a2 (x.trans x2) hs2
      · rename_i hne
        refine wpIn_seq (ihx ds st ex st1 c a h hs fun ds' c' a' x hs' => ?_)
        cases ex with
        | norm => exact absurd h (hne st1)
        | exit id => exact hQ ds' c' a' x hs'
        | goto l => exact hQ ds' c' a' x hs'
        | ret => exact hQ ds' c' a' x hs'
    · intro l st ex st1 hro h
      subst hro
      simp only [jumpK] at h
      split at h
      · rename_i hl
        split at h
        · rename_i st2 h2
          obtain ⟨rest, h3, h4⟩ := jx l st .norm st2 rfl h2
          refine ⟨.seq rest y, by simp only [findLabel, h3], fun ds c a hs Q hQ => ?_⟩
          refine wpIn_seq (h4 ds c a hs fun ds' c' a' x hs' => ?_)
          exact ihy ds' st2 ex st1 c' a' h hs' fun d2 c2 a2 x2 hs2 => hQ d2 c2 a2 (x.trans x2) hs2
        · rename_i hne
          obtain ⟨rest, h3, h4⟩ := jx l st ex st1 rfl h
          refine ⟨.seq rest y, by simp only [findLabel, h3], fun ds c a hs Q hQ => ?_⟩
          refine wpIn_seq (h4 ds c a hs fun ds' c' a' x hs' => ?_)
          cases ex with
          | norm => exact absurd h (hne st1)
          | exit id => exact hQ ds' c' a' x hs'
          | goto l => exact hQ ds' c' a' x hs'
          | ret => exact hQ ds' c' a' x hs'
      · rename_i hl
        obtain ⟨rest, h3, h4⟩ := jy l st ex st1 rfl h
        refine ⟨rest, ?_, h4⟩
        simp only [findLabel]
        cases hx : findLabel x l with
        | none => exact h3
        | some r => rw [hx] at hl; simp at hl
  | cond o x y ihx ihy =>
    refine fun hp => ⟨?_, fun l st ex st1 _ h => by simp [jumpK] at h⟩
    replace ihx := (ihx (hp.imp id fun h => by simp only [plainC, Bool.and_eq_true] at h; exact h.1)).1
    replace ihy := (ihy (hp.imp id fun h => by simp only [plainC, Bool.and_eq_true] at h; exact h.2)).1
    intro ds st ex st1 c a h hs Q hQ
    simp only [exec] at h
    have hv := opval_ok hs.mem.wf hs.tmps o
    split at h
    · rename_i ho
      rw [ho] at hv
      generalize he : a.eval o = v at hv
      cases hv with | dat hv => cases hv with | bool =>
      exact wpIn_cond_true he (ihx ds st ex st1 c a h hs hQ)
    · rename_i ho
      rw [ho] at hv
      generalize he : a.eval o = v at hv
      cases hv with | dat hv => cases hv with | bool =>
      exact wpIn_cond_false he (ihy ds st ex st1 c a h hs hQ)
    · cases h
  | block id b ih =>
    refine fun hp => ⟨?_, fun l st ex st1 _ h => by simp [jumpK] at h⟩
    replace ih := (ih hp).1
    intro ds st ex st1 c a h hs Q hQ
    simp only [exec] at h
    split at h
    · rename_i j st2 h2
      refine wpIn_block (ih ds st (.exit j) st2 c a h2 hs fun ds' c' a' x hs' => ?_)
      split at h
      · rename_i hj
        simp only [Option.some.injEq, Prod.mk.injEq] at h
        obtain ⟨rfl, rfl⟩ := h
        subst hj
        simp only [Ex.exit', Exit.inBlock, if_true]
        exact hQ ds' c' a' x hs'
      · rename_i hj
        simp only [Option.some.injEq, Prod.mk.injEq] at h
        obtain ⟨rfl, rfl⟩ := h
        simp only [Ex.exit', Exit.inBlock, if_neg hj]
        exact hQ ds' c' a' x hs'
    · rename_i hne
      refine wpIn_block (ih ds st ex st1 c a h hs fun ds' c' a' x hs' => ?_)
      cases ex with
      | norm => exact hQ ds' c' a' x hs'
      | exit id => exact absurd h (hne _ st1)
      | goto l => exact hQ ds' c' a' x hs'
      | ret => exact hQ ds' c' a' x hs'
  | loop b ih =>
    refine fun hp => ⟨?_, fun l st ex st1 _ h => by simp [jumpK] at h⟩
    replace ih := (ih hp).1
    intro ds st ex st1 c a h hs Q hQ
    simp only [exec] at h
    obtain ⟨⟨ex0, st0⟩, h0, h9⟩ := Option.map_eq_some_iff.1 h
    simp only [tidyX, Prod.mk.injEq] at h9
    obtain ⟨rfl, rfl⟩ := h9
    refine wpIn_loop_rounds K ?_
    refine loop_ok (fun ds st ex st1 c a h hs Q hQ => ?_) K ds st ex0 st0 c a h0 hs fun d2 c2 a2 x2 hs2 => by
      obtain ⟨c3, hw3, x3, hs3⟩ := tidy_ok (H (firstRegion b + 1000000)) hs2
      rw [← hw3]
      exact hQ d2 c3 a2 (x2.trans x3.m) hs3
    obtain ⟨c', hw, x, hs'⟩ := tidy_ok (H (firstRegion b)) hs
    rw [← hw]
    exact ih ds _ ex st1 c' a h hs' fun d2 c2 a2 x2 hs2 => hQ d2 c2 a2 (x.m.trans x2) hs2
  | exit id =>
    refine fun _ => ⟨?_, fun l st ex st1 _ h => by simp [jumpK] at h⟩
    intro ds st ex st1 c a h hs Q hQ
    simp only [exec, Option.some.injEq, Prod.mk.injEq] at h
    obtain ⟨rfl, rfl⟩ := h
    exact wpIn_exit (hQ ds c a (.refl _ _) hs)
  | ret =>
    refine fun _ => ⟨?_, fun l st ex st1 _ h => by simp [jumpK] at h⟩
    intro ds st ex st1 c a h hs Q hQ
    simp only [exec, Option.some.injEq, Prod.mk.injEq] at h
    obtain ⟨rfl, rfl⟩ := h
    exact wpIn_ret (hQ ds c a (.refl _ _) hs)
  | label l' =>
    intro _
    constructor
    · intro ds st ex st1 c a h hs Q hQ
      simp only [exec, Option.some.injEq, Prod.mk.injEq] at h
      obtain ⟨rfl, rfl⟩ := h
      exact wpIn_label (hQ ds c a (.refl _ _) hs)
    · intro l st ex st1 _ h
      simp only [jumpK] at h
      split at h
      · rename_i hl
        simp only [Option.some.injEq, Prod.mk.injEq] at h
        obtain ⟨rfl, rfl⟩ := h
        exact ⟨.skip, by simp only [findLabel, hl, if_true], fun ds c a hs Q hQ => wpIn_skip (hQ ds c a (.refl _ _) hs)⟩
      · cases h
  | goto l' =>
    refine fun _ => ⟨?_, fun l st ex st1 _ h => by simp [jumpK] at h⟩
    intro ds st ex st1 c a h hs Q hQ
    simp only [exec, Option.some.injEq, Prod.mk.injEq] at h
    obtain ⟨rfl, rfl⟩ := h
    exact wpIn_goto (hQ ds c a (.refl _ _) hs)
  | scope b ih =>
    refine fun hp => ⟨?_, fun l st ex st1 _ h => by simp [jumpK] at h⟩
    rcases hp with rfl | hp
    case inr => simp [plainC] at hp
    intro ds st ex st1 c a h hs Q hQ
    have ih := ih (.inl rfl)
    have hwp : ∀ {c : Code} {Q : Exit → Act → World → Prop} {a : Act} {w : World}, c.wpIn (wF none) k P Q a w ↔ c.wp P Q a w := fun {c Q a w} => wpIn_wide (n := k)
    rw [hwp]
    simp only [exec] at h
    split at h
    · rename_i l st2 h2
      refine wp_scope_any (fun n l a' w' => ∃ ds' c' st', FarM c ds c' ds' ∧ Sim ds' c' st' a' ∧ w' = c'.w ∧ jumpsN n (fun l st => jumpK T orc K H l b (tidyJ H l st)) l st' = some (ex, st1)) K ?_ ?_
      · exact hwp.1 (ih.1 ds st (.goto l) st2 c a h2 hs fun ds' c' a' x hs' => ⟨ds', c', st2, x, hs', rfl, h⟩)
      · rintro n l a' w' ⟨ds', c', st', x, hs', rfl, hj⟩
        cases n with
        | zero => cases hj
        | succ m =>
          simp only [jumpsN] at hj
          have hj2 : ∀ (c3 : Cx), c3.w = c'.w → FarM c ds c3 ds' → Sim ds' c3 (tidyJ H l st') a' → ∃ rest m', m + 1 = m' + 1 ∧ findLabel b l = some rest ∧ rest.wp P (exitJ ((fun n l a' w' => ∃ ds' c' st', FarM c ds c' ds' ∧ Sim ds' c' st' a' ∧ w' = c'.w ∧ jumpsN n (fun l st => jumpK T orc K H l b (tidyJ H l st)) l st' = some (ex, st1)) m') Q) a' c3.w := by
            intro c3 _ x3 hs3
            cases hk : jumpK T orc K H l b (tidyJ H l st') with
            | none => rw [hk] at hj; cases hj
            | some p =>
              obtain ⟨ex2, s2⟩ := p
              rw [hk] at hj
              obtain ⟨rest, h3, h4⟩ := ih.2 l _ ex2 s2 rfl hk
              refine ⟨rest, m, rfl, h3, hwp.1 (h4 ds' c3 a' hs3 fun d2 c2 a2 x2 hs2 => ?_)⟩
              cases ex2 with
              | goto l' => exact ⟨d2, c2, s2, x3.trans x2, hs2, rfl, hj⟩
              | norm => cases hj; exact hQ d2 c2 a2 (x3.trans x2) hs2
              | exit id => cases hj; exact hQ d2 c2 a2 (x3.trans x2) hs2
              | ret => cases hj; exact hQ d2 c2 a2 (x3.trans x2) hs2
          by_cases hc : (H 3000000).contains (6000000 + l) = true
          · obtain ⟨c3, hw3, x3, hs3⟩ := tidy_ok (H (6000000 + l)) hs'
            rw [← hw3]
            exact hj2 c3 hw3 (x.trans x3.m) (by unfold tidyJ; rw [if_pos hc]; exact hs3)
          · exact hj2 c' rfl x (by unfold tidyJ; rw [if_neg hc]; exact hs')
    · rename_i hng
      refine wp_scope_straight (hwp.1 (ih.1 ds st ex st1 c a h hs fun ds' c' a' x hs' => ?_))
      cases ex with
      | norm => exact hQ ds' c' a' x hs'
      | exit id => exact hQ ds' c' a' x hs'
      | goto l => exact absurd h (hng _ _)
      | ret => exact hQ ds' c' a' x hs'
  | rangeFunc f ps asg body _ _ =>
    refine fun hp => ⟨?_, fun l st ex st1 _ h => by simp [jumpK] at h⟩
    rcases hp with rfl | hp
    case inr => simp [plainC] at hp
    intro ds st ex st1 c a h hs Q hQ
    simp only [exec] at h
    split at h
    · rename_i ts m1 h1
      split at h
      · rename_i g caps hf
        split at h
        · rename_i hlt
          split at h
          · rename_i r G2 hc
            split at h
            · rename_i s ts2 ps2 asg2 body2 hg2
              cases s with
              | busy => cases h
              | ready =>
                simp only [Option.some.injEq, Prod.mk.injEq] at h
                obtain ⟨rfl, rfl⟩ := h
                exact range_ok hO hs h1 hf hlt hc hg2 (by simp) fun ds' c' a' x hs' => hQ ds' c' a' x hs'
              | done j =>
                simp only [Option.some.injEq, Prod.mk.injEq] at h
                obtain ⟨rfl, rfl⟩ := h
                exact range_ok hO hs h1 hf hlt hc hg2 (by simp) fun ds' c' a' x hs' => wpIn_jump j (hQ ds' c' a' x hs')
            · cases h
          · cases h
        · cases h
      · cases h
    · cases h
  | _ =>
    refine fun _ => ⟨?_, fun l st ex st1 _ h => by simp [jumpK] at h⟩
    intro ds st ex st1 c a h hs Q hQ
    simp only [exec] at h
    cases h

theorem exec_ok {P : Program} {T : Tab} {orc : Orc} (hT : TabOk P T) (hO : ∀ f, COk P f (orc f)) (hD : DrawOK P T) {K : Nat} {H : Nat → List Nat} {ro : Option Nat} {k : Nat} (code : Code) (hp : ro = none ∨ plainC code = true) (ds : List Deferred) (st : St) (ex : Ex) (st1 : St) (c : Cx) (a : Act) (h : exec T orc K H code st = some (ex, st1)) (hs : Sim ds c st a)
    {Q : Exit → Act → World → Prop} (hQ : ∀ ds' c' a', FarM c ds c' ds' → Sim ds' c' st1 a' → Q ex.exit' a' c'.w) : code.wpIn (wF ro) k P Q a c.w := (exec_jump_ok hT hO hD code hp).1 ds st ex st1 c a h hs hQ

end Go.Eng
end

/- What a function hands back; the contract out of an evaluation. -/
section
namespace Go.Eng
open Go Go.RowKit
variable [Inhabited Pkg]
set_option linter.unusedSectionVars false

/-- one result, as the machine reads it -/
def resultOf (tmps : Array Value) : ResultVar → Sem Value
  | .tmp t => pure (tmps.getD t Go.undef)
  | .cell a t => do loadVar t (← asAddr (tmps.getD a Go.undef))

theorem getD_ok {c : Cx} {ts : List AV} {tmps : Array Value} (wf : WF c) (h : All2 (VL c) ts tmps.toList) (t : Nat) : VL c (ts.getD t .dead) (tmps.getD t Go.undef) := by
  have := opval_ok (a := ⟨tmps, []⟩) wf h (.tmp t)
  simpa [opval, Act.eval] using this

variable {ds : List Deferred}

theorem resultV_ok {P : Program} {T : Tab} {c : Cx} {st : St} {a : Act} (hT : TabOk P T) (h : Sim ds c st a) {r : ResultVar} {x : AV} (hr : resultV T st r = some x) : RunsTo P c (resultOf a.tmps r) x := by
  cases r with
  | tmp t =>
    simp only [resultV, Option.some.injEq] at hr
    subst hr
    exact ⟨_, rfl, getD_ok h.mem.wf h.tmps t⟩
  | cell ad t =>
    simp only [resultV] at hr
    obtain ⟨v, h1, h2⟩ := load_ok (P := P) hT h.mem hr (getD_ok h.mem.wf h.tmps ad)
    refine ⟨v, ?_, h2⟩
    simp only [resultOf]
    generalize a.tmps.getD ad Go.undef = q at h1
    simp only [Instr.loadAt] at h1
    cases q with
    | pointer o =>
      cases o with
      | none => simp [Instr.sureAddr] at h1
      | some p => simpa [Instr.sureAddr, asAddr] using h1
    | _ => simp [Instr.sureAddr] at h1

theorem resultsV_ok {P : Program} {T : Tab} {c : Cx} {st : St} {a : Act} (hT : TabOk P T) (h : Sim ds c st a) : ∀ (rs : List ResultVar) (as : List AV), resultsV T st rs = some as →
    ∃ vs, (rs.mapM (resultOf a.tmps)).run P c.w = .ok vs c.w ∧ All2 (VL c) as vs
  | [], as, hr => by
    simp only [resultsV, Option.some.injEq] at hr
    subst hr
    exact ⟨[], by simp, trivial⟩
  | r :: rs, as, hr => by
    simp only [resultsV] at hr
    split at hr
    · rename_i x hx
      split at hr
      · rename_i xs hxs
        simp only [Option.some.injEq] at hr
        subst hr
        obtain ⟨v, h1, h2⟩ := resultV_ok (P := P) hT h hx
        obtain ⟨vs, h3, h4⟩ := resultsV_ok hT h rs xs hxs
        exact ⟨v :: vs, by simp [List.mapM_cons, h1, h3], h2, h4⟩
      · cases hr
    · cases hr

theorem back_ok {c : Cx} {m m' : Mem} {a r : AV} {v : Value} (h : back m a = some (r, m')) (hm : MemOk c m) (hv : VL c a v) : ∃ c', Ghost c c' ∧ MemOk c' m' ∧ RL c' r v := by
  have hp : ∀ {r m'}, pass m a = some (r, m') → ∃ c', Ghost c c' ∧ MemOk c' m' ∧ RL c' r v := by
    intro r m' h
    obtain ⟨c', g, k, q1, q2⟩ := pass_ok h hm hv
    refine ⟨c', g, k, ?_⟩
    have hr : rclean r = true := by cases r <;> simp_all [rclean, pclean1, pclean]
    cases r <;> first
      | exact ⟨q1, hr⟩
      | simp [pclean1, pclean] at q2
  unfold back at h
  split at h
  · rename_i f i sz off len
    have own : ∀ {s : Nat} {xs : Row} {md : Mode} {x : Bool}, m.get (.loc i) = some (.row md s xs) → md = (if x then Mode.excl else Mode.own) → s = sz ∧ off = 0 ∧ len = xs.length ∧ f = false →
        ∃ c', Ghost c c' ∧ MemOk c' (m.set (.loc i) .gone) ∧ RL c' (.own x sz xs) v := by
      intro s xs md x hr hmd hc
      obtain ⟨rfl, rfl, rfl, rfl⟩ := hc
      obtain ⟨hi, b, cap, h1, h2, h3, h4, h5⟩ := sh_row hm hv hr
      have hne : md ≠ .ro := by rw [hmd]; cases x <;> simp
      have h3' : RowOk c (.lent i) b cap s xs md := by
        cases md with
        | ro => exact absurd rfl hne
        | own => exact h3
        | excl => exact h3
      obtain ⟨ad, cap', ty, n, rfl, q1, q2, q3, q4, q5, q6⟩ := h5
      have hrow : RowOk c (.lent i) b cap' s xs md := h3'.cap_le q2 q3 (fun ty' n' hn => by
        rw [q1] at hn
        simp only [Option.some.injEq, Prod.mk.injEq] at hn
        rw [← hn.2, ← Nat.zero_add cap']; exact q4)
      refine ⟨c, .refl _, hm.setL hi (.refl _) hm.wf rfl rfl rfl (fun _ _ => .refl _ _) trivial, b, cap', i, ?_, by rw [← hmd]; exact hrow⟩
      rcases q6 with rfl | ⟨_, _, q6, _⟩
      · simp
      · exact absurd rfl q6
    split at h
    · rename_i s xs hr
      split at h
      · rename_i hc
        simp only [Option.some.injEq, Prod.mk.injEq] at h
        obtain ⟨rfl, rfl⟩ := h
        exact own hr rfl hc
      · exact hp h
    · rename_i s xs hr
      split at h
      · rename_i hc
        simp only [Option.some.injEq, Prod.mk.injEq] at h
        obtain ⟨rfl, rfl⟩ := h
        exact own hr rfl hc
      · exact hp h
    · exact hp h
  · exact hp h

theorem finish_ok {P : Program} {T : Tab} {c : Cx} {st : St} {a : Act} (hT : TabOk P T) (h : Sim ds c st a) {fn : Func} {r : AV} {G : List Ent} (hf : finishK T fn st = some (r, G)) :
    ∃ c' v, (results fn a.tmps).run P c.w = .ok v c.w ∧ Ghost c c' ∧ (∃ m, MemOk c' m ∧ m.G = G) ∧ RL c' r v := by
  have hres : ∀ vs : List Value, (fn.results.toList.mapM (resultOf a.tmps)).run P c.w = .ok vs c.w → (results fn a.tmps).run P c.w = .ok (if h : vs.toArray.size = 1 then vs.toArray[0] else .tuple vs.toArray) c.w := by
    intro vs hvs
    have he : results fn a.tmps = (do
        let vs ← fn.results.mapM (resultOf a.tmps)
        pure (if h : vs.size = 1 then vs[0] else .tuple vs)) := by
      unfold results
      congr 1
    rw [he, Array.mapM_eq_mapM_toList]
    simp only [bind_map_left, Sem.run_bind, hvs, Result.andThen_ok, Sem.run_pure]
  unfold finishK at hf
  split at hf
  · rename_i x hx
    obtain ⟨vs, h1, h2⟩ := resultsV_ok (P := P) hT h _ _ hx
    match vs, h2 with
    | [v], h2 =>
      split at hf
      · rename_i r' m hb
        simp only [Option.some.injEq, Prod.mk.injEq] at hf
        obtain ⟨rfl, rfl⟩ := hf
        obtain ⟨c', g, k, q⟩ := back_ok hb h.mem h2.1
        exact ⟨c', v, by simpa using hres _ h1, g, ⟨m, k, rfl⟩, q⟩
      · cases hf
  · rename_i as hne has
    obtain ⟨vs, h1, h2⟩ := resultsV_ok (P := P) hT h _ _ has
    have hlen : vs.toArray.size ≠ 1 := fun e => by
      have h3 := h2.length
      simp only [List.size_toArray] at e
      rw [e] at h3
      match as, h3 with
      | [x], _ => exact hne x rfl
    split at hf
    · rename_i rs m hp
      simp only [Option.some.injEq, Prod.mk.injEq] at hf
      obtain ⟨rfl, rfl⟩ := hf
      obtain ⟨c', g, k, q⟩ := mapS_pass hp h.mem h2
      refine ⟨c', .tuple vs.toArray, by rw [hres _ h1, dif_neg hlen], g, ⟨m, k, rfl⟩, ?_, ?_⟩
      · exact VL.tupL (q.mono fun a v h => h.1)
      · simp only [rclean, List.all_eq_true]
        intro x hx
        obtain ⟨j, hj⟩ := List.getElem?_of_mem hx
        obtain ⟨_, _, z⟩ := q.get j x hj
        exact z.2
    · cases hf
  · cases hf

/-- what is left of a call's context when it has come to its end -/
def Cx.out (c : Cx) : Cx := { c with bl := fun _ => none, ep := c.ep + 1 }

theorem out_ok {c c' : Cx} {G G' : List Ent} {m : Mem} (he : Enter c G) (x : Far c c') (hm : MemOk c' m) (hG : m.G = G') {r : AV} {v : Value} (hr : RL c' r v) : Back c r G' (.returned v) c'.w := by
  have hbl : ∀ i, c.bl i = none := fun i => he.mem.ln i (.inr (by simp [gMem]))
  have hep : c.ep = 0 := he.mem.ep
  subst hG
  have hext : Ext c c'.out :=
    { os := x.os, tape := x.tape, output := x.output, size := x.size, stay := x.stay, fo := x.fo, sh := x.sh, bg := x.bg, ep := (by rw [hep]; exact Nat.zero_le _)
      bl := (fun i b hb => by rw [hbl i] at hb; cases hb), rl := (fun i b hb => by rw [hbl i] at hb; cases hb), gc := (fun e => by simp [Cx.out, hep] at e) }
  refine ⟨c'.out, rfl, hext,
    ⟨⟨hm.wf.lv, hm.wf.own, hm.wf.pk⟩, rfl, fun _ _ => rfl, fun i e hi => by simp [gMem] at hi, hm.gn, fun g e hg => GOk.cx (c := c') rfl rfl rfl (fun b who _ ho => ho) (hm.g g e hg)⟩, ?_⟩
  cases r with
  | own x sz xs =>
    obtain ⟨b, cap, i, h1, h2⟩ := hr
    exact ⟨b, cap, i, h1, RowOk.cx (c := c') rfl rfl h2.own h2⟩
  | _ => exact ⟨VL.rclean (c := c') rfl rfl rfl hr.2 hr.1, hr.2⟩

/-- the marks are come to, one by one -/
theorem leave_marks {P : Program} {k : Nat} {fn : Func} {tmps : Array Value} {R : Ending → World → Prop} {c0 : Cx} {m : Mem} {ts : List AV} : ∀ (ms : List Nat) (c : Cx), ms.Nodup → (∀ D ∈ ms, c0.w.heap.size ≤ D ∧ D < c.w.heap.size ∧ c.w.heap[D]? = some (.deferred (some [])) ∧ c.own D = none) →
    Far c0 c → MemOk c m → All2 (VL c) ts tmps.toList → (∀ c', Far c0 c' → MemOk c' m → All2 (VL c') ts tmps.toList → LeavesIn (wF none) k P fn tmps R [] .returning c'.w) →
    LeavesInM (wF none) k P fn tmps R (ms.map mark) .returning c.w
  | [], c, _, _, x, hm, ht, hQ => hQ c x hm ht
  | D :: ms, c, hn, hms, x, hm, ht, hQ => by
    obtain ⟨h1, h2, h3, h4⟩ := hms D (by simp)
    obtain ⟨n1, n2⟩ := List.nodup_cons.1 hn
    refine ⟨by simp, .inl ⟨D, c.w.putObj D (.deferred none), rfl, run_takeDeferred h3, ?_⟩⟩
    obtain ⟨c1, hc1⟩ : ∃ c1, c1 = c.claim D (.grow m.G.length 0) := ⟨_, rfl⟩
    have hm1 : MemOk c1 m := by rw [hc1]; exact claim_mem hm h4 h2
    have ho1 : c1.own D = some (.grow m.G.length 0) := by rw [hc1]; simp [Cx.claim]
    have hw1 : c1.w = c.w := by rw [hc1]; rfl
    obtain ⟨c2, hc2⟩ : ∃ c2, c2 = c1.putO D (.deferred none) := ⟨_, rfl⟩
    have x12 : Ext c1 c2 := by rw [hc2]; exact putO_ext (by rw [hw1]; exact h3) rfl rfl (by rw [ho1]; simp)
    have sm : ∀ who, who ≠ .grow m.G.length 0 → Same c1 c2 who := fun who hw => by
      rw [hc2]; exact putO_same (by rw [ho1]; intro e; injection e with e; exact hw e.symm)
    have hm2 : MemOk c2 m := by
      refine hm1.still x12 (by rw [hc2]; exact putO_wf hm1.wf (by rw [← hc2]; exact x12)) (by rw [hc2]; rfl) (by rw [hc2]; rfl) (by rw [hc2]; rfl) (fun i => sm _ (by simp)) (fun g _ => sm _ (by simp)) (fun g j hg => sm _ (by intro e; injection e with e _; omega))
    have hw2 : c2.w = c.w.putObj D (.deferred none) := by rw [hc2, hc1]; rfl
    rw [← hw2]
    refine leave_marks ms c2 n2 (fun D' hD' => ?_) ?_ hm2 ?_ hQ
    · obtain ⟨q1, q2, q3, q4⟩ := hms D' (by simp [hD'])
      have hne : D' ≠ D := fun e => n1 (e ▸ hD')
      refine ⟨q1, by rw [hw2]; simpa using q2, by rw [hw2, World.putObj_heap_other hne]; exact q3, ?_⟩
      rw [hc2, hc1]
      simp [Cx.putO, Cx.claim, hne, q4]
    · have fo : ∀ b, b < c0.w.heap.size → c0.own b = none → c2.w.heap[b]? = c0.w.heap[b]? ∧ c2.own b = none ∧ c2.lv b = c0.lv b := by
        intro b hb hno
        obtain ⟨q1, q2, q3⟩ := x.fo b hb hno
        have hne : b ≠ D := by omega
        refine ⟨by rw [hw2, World.putObj_heap_other hne]; exact q1, ?_, ?_⟩
        · rw [hc2, hc1]
          simp [Cx.putO, Cx.claim, hne, q2]
        · rw [hc2, hc1]; exact q3
      have hb0 : bare (.deferred (some [])) = true := rfl
      have e1 : ∀ b o, c1.w.cell? ⟨b, o, none⟩ = c.w.cell? ⟨b, o, none⟩ := fun b o => by rw [hw1]
      refine ⟨?_, ?_, ?_, ?_, ?_, fo, fun b s hs => ?_, fun g b hg => ?_⟩
      · rw [hw2]; exact x.os
      · rw [hw2]; exact x.tape
      · rw [hw2]; exact x.output
      · rw [hw2]; simpa using x.size
      · refine ⟨fun b o ho => ?_, fun b => ?_⟩
        · have hlv : o < c1.lv b := by rw [hc1]; exact Nat.lt_of_lt_of_le ho (x.stay.lv b)
          rw [x12.stay.cell b o hlv, e1]
          exact x.stay.cell b o ho
        · have := x.stay.lv b
          rw [hc2, hc1]; exact this
      · exact x12.sh b s (by rw [hw1]; exact x.sh b s hs)
      · exact x12.bg g b (by rw [hc1]; exact x.bg g b hg)
    · exact (ht.mono fun a v h => (by rw [hc1]; exact h.claim : VL c1 a v)).mono fun a v h => h.ext x12

/-- **A contract out of an evaluation.** -/
theorem cok_of_exec {P : Program} {T : Tab} {orc : Orc} (hT : TabOk P T) (hO : ∀ f, COk P f (orc f)) (hD : DrawOK P T) {f : FuncId} {fn : Func} (hf : P.funcs[f]? = some fn) (hname : (fn.name == "runtime.NumGoroutine") = false) {K : Nat} {H : Nat → List Nat}
    {spec : Spec} (hs : ∀ as G r, spec as G = some r → as.length ≤ fn.ntmps ∧ ∃ K, execFn T orc K H fn as G = some r) (hlt : f < yB := by decide) : COk P f spec := by
  intro c as G vs r G' hspec he hv
  obtain ⟨hlen, K, hx⟩ := hs as G _ hspec
  unfold execFn at hx
  split at hx
  · rename_i code hb
    refine .func hlt ⟨⟨fn, hf, hname, by rw [hb]; rfl⟩, (callsIn_wide (n := 0)).1 (callsIn_of_wp_marks hf hb trivial ?_)⟩
    have hl := hv.length
    simp only [Array.length_toList] at hl
    have hsim : Sim [] c { tmps := as ++ List.replicate (fn.ntmps - as.length) .undef, mem := gMem G 0 } { tmps := vs ++ Array.replicate (fn.ntmps - vs.size) Go.undef, defers := [] } := by
      refine ⟨he.mem, ?_, rfl⟩
      simp only [Array.toList_append, Array.toList_replicate, hl]
      refine (hv.mono fun a v h => h.1).append (All2.of (by simp) fun j a ha v hv => ?_)
      rw [List.getElem?_replicate] at ha hv
      split at ha
      · rename_i hj
        rw [if_pos hj] at hv
        injection ha with ha
        injection hv with hv
        rw [← ha, ← hv]; exact .undef
      · cases ha
    have fin : ∀ (st : St) (ex : Ex), (ex = .norm ∨ ex = .ret) → exec T orc K H code { tmps := as ++ List.replicate (fn.ntmps - as.length) .undef, mem := gMem G 0 } = some (ex, st) → finishK T fn st = some (r, G') →
        code.wpIn (wF none) 0 P (bodyPostM (wF none) 0 P fn (Back c r G')) { tmps := vs ++ Array.replicate (fn.ntmps - vs.size) Go.undef, defers := [] } c.w := by
      intro st ex hex h1 h2
      refine exec_ok hT hO hD code (.inl rfl) [] _ ex st c _ h1 hsim fun ds' c' a' x hs' => ?_
      obtain ⟨xf, ms, e1, e2, e3⟩ := x
      have key : LeavesInM (wF none) 0 P fn a'.tmps (Back c r G') a'.defers .returning c'.w := by
        rw [hs'.defers, e1, List.append_nil]
        refine leave_marks ms c' e2 e3 xf hs'.mem hs'.tmps fun c3 x3 hm3 ht3 => ?_
        obtain ⟨c2, v, q1, q2, ⟨m, q3, q3'⟩, q4⟩ := finish_ok (P := P) (a := a') (ds := a'.defers) hT ⟨hm3, ht3, rfl⟩ h2
        have hback := out_ok he (x3.trans q2.ext.far) q3 q3' q4
        rw [q2.w] at hback
        exact ⟨v, q1, hback⟩
      rcases hex with rfl | rfl
      · exact key
      · exact key
    split at hx
    · rename_i st h1
      exact fin st .norm (.inl rfl) h1 hx
    · rename_i st h1
      exact fin st .ret (.inr rfl) h1 hx
    · cases hx
  · cases hx

/-- **The contract of a loop's body, as a function.** -/
theorem round_ok {P : Program} {T : Tab} {orc : Orc} (hT : TabOk P T) (hO : ∀ f, COk P f (orc f)) (hD : DrawOK P T) {K : Nat} {H : Nat → List Nat} (gi : Nat)
    {spec : Spec} (hs : ∀ as G r, spec as G = some r → ∃ K, roundK T orc K H gi as G = some r) : COk P (yB + gi) spec := by
  intro c as G vs r G' hspec he hv
  refine ⟨fun h => absurd h (Nat.not_lt.2 (Nat.le_add_right _ _)), fun l _ hl => ?_⟩
  rw [Nat.add_sub_cancel_left] at hl
  obtain ⟨K, hx⟩ := hs as G _ hspec
  unfold roundK at hx
  split at hx
  case h_2 => cases hx
  rename_i ts ps asg body hG
  split at hx
  case isFalse => cases hx
  rename_i hc
  obtain ⟨hlen, hpa, hpb⟩ := hc
  obtain ⟨l0, rc, z1, z2, z3, z4, z5, z6, z7, z8, z9, z10, z11⟩ := he.mem.g gi _ hG
  have hl0 : l0 = l := by rw [hl] at z1; injection z1 with z1; exact z1.symm
  subst hl0
  have hsz : vs.size = rc.params.size := by
    have h1 := hv.length
    simp only [Array.length_toList] at h1
    have h2 : rc.params.size = ps.length := by rw [← z6]; simp
    omega
  refine ⟨rc.fn, _, rc.assign, rc.body, run_yield z2 hsz, fun n => roundIn_of_wpIn trivial ?_⟩
  have hts : All2 (VL c) ts rc.tmps.toList := All2.of (by simpa using z10) fun j a ha v hv' => by
    obtain ⟨_, v', q1, q2⟩ := z11 j a ha
    have : rc.tmps[j]? = some v := by simpa using hv'
    rw [this] at q1
    injection q1 with q1
    rw [q1]; exact q2
  have hset : All2 (VL c) (setP ts ps as) ((rc.params.zip vs).foldl (fun tmps (t, a) => tmps.setIfInBounds t a) rc.tmps).toList := by
    unfold setP
    rw [← Array.foldl_toList, Array.toList_zip]
    have hz : All2 (fun (p : Nat × AV) v => VL c p.2 v) (ps.zip as) vs.toList := by
      have h1 := hv.length
      simp only [Array.length_toList] at h1
      refine All2.of (by simp only [List.length_zip, Array.length_toList]; omega) fun j p hp v hv' => ?_
      rw [List.getElem?_zip_eq_some] at hp
      obtain ⟨v', q1, q2, _⟩ := hv.get j p.2 hp.2
      rw [hv'] at q1
      injection q1 with q1
      rw [q1]; exact q2
    refine setP_ok (ps.zip as) vs.toList ts rc.tmps rc.params.toList hts hz ?_
    rw [z6, List.map_fst_zip (by omega)]
  have hsim : Sim [] c ⟨setP ts ps as, gMem G 0⟩ { tmps := (rc.params.zip vs).foldl (fun tmps (t, a) => tmps.setIfInBounds t a) rc.tmps, defers := [] } := ⟨he.mem, hset, rfl⟩
  rw [z7, z8]
  split at hx
  case h_2 => cases hx
  rename_i st1 hA
  split at hx
  case h_2 => cases hx
  rename_i ts1 ps1 asg1 body1 hG1
  split at hx
  case h_2 => cases hx
  rename_i x st2 hB
  split at hx
  case h_2 => cases hx
  rename_i ts2 ps2 asg2 body2 hG2
  simp only [Option.some.injEq, Prod.mk.injEq] at hx
  obtain ⟨rfl, rfl⟩ := hx
  have hin : (Fence.wide.inRound l0) = wF (some l0) := rfl
  rw [hin]
  refine exec_ok hT hO hD asg (.inr hpa) [] _ .norm st1 c _ hA hsim fun d1 c1 a1 x1 hs1 => ?_
  obtain ⟨l1, rc1, y1, y2, y3, y4, y5, y6, y7, y8, y9, y10, y11⟩ := hs1.mem.g gi _ hG1
  have hl1 : l1 = l0 := by
    have := x1.far.bg _ _ hl
    rw [this] at y1; injection y1 with y1; exact y1.symm
  subst hl1
  show ∃ w₂, _
  refine ⟨_, run_beginRound y2 y5, ?_⟩
  obtain ⟨c2, hc2⟩ : ∃ c2, c2 = c1.putO l1 (.loop { rc1 with state := .busy }) := ⟨_, rfl⟩
  have x12 : Ext c1 c2 := by rw [hc2]; exact putO_ext y2 rfl rfl (by rw [y3]; simp)
  have hput : ∀ {cA cB : Cx} {m : Mem} {rA rB : Loop} {e : Ent}, MemOk cA m → cB = cA.putO l1 (.loop rB) → cA.w.heap[l1]? = some (.loop rA) → cA.own l1 = some (.gobj gi) → Ext cA cB → GOk cB gi e → MemOk cB { m with G := m.G.set gi e } := by
    intro cA cB m rA rB e hm hcB h1 h2 x he
    have sm : ∀ who, who ≠ .gobj gi → Same cA cB who := fun who hw => by
      rw [hcB]; exact putO_same (by rw [h2]; intro e; injection e with e; exact hw e.symm)
    refine hm.of x (by rw [hcB]; exact putO_wf hm.wf (by rw [← hcB]; exact x)) (by rw [hcB]; exact hm.ep) (fun i e hi => .inl ⟨hi, sm _ (by simp)⟩) (fun i hi => by rw [hcB]; exact hm.ln i hi) (fun g' e' he' => ?_) (fun g' hg' => ?_)
    · simp only [List.getElem?_set] at he'
      split at he'
      · rename_i hg0
        subst hg0
        split at he'
        · simp only [Option.some.injEq] at he'
          subst he'
          exact .inr he
        · cases he'
      · rename_i hg0
        exact .inl ⟨he', sm _ (by simpa using fun e => hg0 e.symm), fun j => sm _ (by simp)⟩
    · simp only [List.length_set] at hg'
      rw [hcB]; exact hm.gn g' hg'
  have hlt1 : l1 < c1.w.heap.size := (Array.getElem?_eq_some_iff.1 y2).1
  have hm2 : MemOk c2 { st1.mem with G := st1.mem.G.set gi (.lrec .busy ts1 ps1 asg1 body1) } := by
    refine hput (rA := rc1) hs1.mem hc2 y2 y3 x12 ⟨l1, { rc1 with state := .busy }, x12.bg _ _ y1, ?_, by rw [hc2]; exact y3, by rw [hc2]; exact y4, rfl, y6, y7, y8, fun h => absurd rfl h, y10, fun j a ha => ?_⟩
    · rw [hc2]; exact World.putObj_heap_same hlt1
    · obtain ⟨q1, v, q2, q3⟩ := y11 j a ha
      exact ⟨q1, v, q2, q3.ext x12⟩
  have hsim2 : Sim d1 c2 ⟨st1.tmps, { st1.mem with G := st1.mem.G.set gi (.lrec .busy ts1 ps1 asg1 body1) }⟩ a1 := ⟨hm2, x12.all2 hs1.tmps, hs1.defers⟩
  have hw2 : c1.w.putObj l1 (.loop { rc1 with state := .busy }) = c2.w := by rw [hc2]; rfl
  rw [hw2]
  refine exec_ok hT hO hD body (.inr hpb) d1 _ x st2 c2 a1 hB hsim2 fun d3 c3 a3 x3 hs3 => ?_
  obtain ⟨l3, rc3, w1, w2, w3, w4, w5, w6, w7, w8, w9, w10, w11⟩ := hs3.mem.g gi _ hG2
  have hl3 : l3 = l1 := by
    have := x3.far.bg _ _ (x12.bg _ _ y1)
    rw [this] at w1; injection w1 with w1; exact w1.symm
  subst hl3
  have hlt3 : l3 < c3.w.heap.size := (Array.getElem?_eq_some_iff.1 w2).1
  have fin : ∀ (j : Option Code), j = (match x.ls with | .done _ => some x.code | _ => none) → ∃ v w', (Instr.endRound l3 j).run P c3.w = .ok v w' ∧ Back c (.dat (.bool x.isNorm)) (st2.mem.G.set gi (.lrec x.ls ts2 ps2 asg2 body2)) (.returned v) w' := by
    intro j hj
    refine ⟨_, _, run_endRound j w2, ?_⟩
    obtain ⟨c4, hc4⟩ : ∃ c4, c4 = c3.putO l3 (.loop { rc3 with state := if j.isNone then .ready else .done, pending := j }) := ⟨_, rfl⟩
    have x34 : Ext c3 c4 := by rw [hc4]; exact putO_ext w2 rfl rfl (by rw [w3]; simp)
    have hw4 : c3.w.putObj l3 (.loop { rc3 with state := if j.isNone then .ready else .done, pending := j }) = c4.w := by rw [hc4]; rfl
    rw [hw4]
    have hm4 : MemOk c4 { st2.mem with G := st2.mem.G.set gi (.lrec x.ls ts2 ps2 asg2 body2) } := by
      refine hput (rA := rc3) hs3.mem hc4 w2 w3 x34 ⟨l3, { rc3 with state := if j.isNone then .ready else .done, pending := j }, x34.bg _ _ w1, ?_, by rw [hc4]; exact w3, by rw [hc4]; exact w4, ?_, w6, w7, w8, fun _ => ?_, w10, fun j a ha => ?_⟩
      · rw [hc4]; exact World.putObj_heap_same hlt3
      · subst hj
        cases x <;> rfl
      · subst hj
        cases x <;> rfl
      · obtain ⟨q1, v, q2, q3⟩ := w11 j a ha
        exact ⟨q1, v, q2, q3.ext x34⟩
    refine out_ok he (x1.far.trans (x12.far.trans (x3.far.trans x34.far))) hm4 rfl ⟨?_, rfl⟩
    have : x.isNorm = j.isNone := by subst hj; cases x <;> rfl
    rw [this]
    exact .dat (.bool _)
  cases x with
  | norm => exact fin none rfl
  | exit id => exact fin (some (.exit id)) rfl
  | goto t => exact fin (some (.goto t)) rfl
  | ret => exact fin (some .ret) rfl

end Go.Eng
end

/- Regions that draw their order: what does not hang on the order. -/
section
namespace Go.Eng
open Go Go.RowKit
variable [Inhabited Pkg]
set_option linter.unusedSectionVars false

/-! ### what an operation looks at -/

theorem sem_congr {T : Tab} {orc : Orc} {o : Oper} {k base : Nat} {m : Mem} {v v' : Operand → AV} (h : ∀ x ∈ o.op.operands, v x = v' x) :
    semD T orc o k v m = semD T orc o k v' m ∧ okD base v o = okD base v' o := by
  obtain ⟨dst, op, type, pos, after, guard⟩ := o
  cases op <;> simp only [Op.operands] at h <;> simp only [semD, sem, okD]
  case build t ps =>
    refine ⟨?_, trivial⟩
    rw [List.map_congr_left fun p hp => by rw [h p.2 (by simpa using ⟨p.1, by simpa using hp⟩)]]
  case buildSlice t n ps =>
    have e : ∀ p ∈ ps.toList, v p.2 = v' p.2 := fun p hp => h p.2 (by simpa using ⟨p.1, by simpa using hp⟩)
    constructor
    · rw [List.map_congr_left fun p hp => by rw [e p hp]]
    · rw [Bool.eq_iff_iff]
      simp only [List.all_eq_true]
      exact ⟨fun q p hp => by rw [← e p hp]; exact q p hp, fun q p hp => by rw [e p hp]; exact q p hp⟩
  case makeFunc f first caps =>
    have e : ∀ x ∈ caps.toList, v x = v' x := fun x hx => h x (by simp at hx; simp [hx])
    cases f <;> simp only [List.map_congr_left e, and_self]
  case slice t x lo hi mx => cases lo <;> cases hi <;> cases mx <;> simp_all
  case call c =>
    refine ⟨?_, trivial⟩
    have e : c.args.toList.map v = c.args.toList.map v' := List.map_congr_left fun x hx => h x (by simp at hx; simp [Call.operands, hx])
    unfold call
    cases hc : c.callee with
    | value f =>
      have ef : v f = v' f := h f (by simp [Call.operands, hc])
      simp only [ef, e]
    | invoke r n => rfl
    | builtin b =>
      have e1 : ∀ x ∈ c.args, v x = v' x := fun x hx => h x (by simp [Call.operands, hx])
      cases b <;> simp only [e]
      case len =>
        split
        · rename_i x t hx _
          rw [e1 x (by rw [toList_one hx]; simp)]
        · rfl
      case append =>
        split
        · rename_i x y t t2 hx _
          rw [e1 x (by rw [toList_two hx]; simp), e1 y (by rw [toList_two hx]; simp)]
        · rfl
  all_goals (first | exact ⟨trivial, trivial⟩ | exact ⟨rfl, rfl⟩ | (constructor <;> simp_all; done) | (simp_all; done))

theorem opval_put {ts : List AV} {d : Nat} {a : AV} {x : Operand} (h : x ≠ .tmp d) : opval (ts.set d a) x = opval ts x := by
  cases x with
  | tmp t =>
    have hne : d ≠ t := fun e => h (by rw [e])
    simp [opval, List.getD_eq_getElem?_getD, List.getElem?_set_ne hne]
  | _ => rfl

theorem okM_congr {ro : Bool} {base : Nat} {m : Mem} {o : Oper} {v v' : Operand → AV} (h : ∀ x ∈ o.op.operands, v x = v' x) : okM ro base v m o = okM ro base v' m o := by
  obtain ⟨dst, op, type, pos, after, guard⟩ := o
  cases op <;> simp only [Op.operands] at h <;> simp only [okM]
  case load t a => rw [h a (by simp)]
  case call c =>
    have e : (c.args.toList.all fun x => noLocA (v x)) = (c.args.toList.all fun x => noLocA (v' x)) := by
      rw [Bool.eq_iff_iff]
      simp only [List.all_eq_true]
      have e1 : ∀ x ∈ c.args.toList, v x = v' x := fun x hx => h x (by simp at hx; simp [Call.operands, hx])
      exact ⟨fun q x hx => by rw [← e1 x hx]; exact q x hx, fun q x hx => by rw [e1 x hx]; exact q x hx⟩
    rw [e]
    cases hc : c.callee with
    | value f => simp only [h f (by simp [Call.operands, hc])]
    | invoke a b => rfl
    | builtin b =>
      have e1 : ∀ x ∈ c.args, v x = v' x := fun x hx => h x (by simp [Call.operands, hx])
      cases b <;> simp only
      case append =>
        congr 1
        cases hx : c.args.toList with
        | nil => rfl
        | cons x r =>
          cases r with
          | nil => rfl
          | cons y r =>
            cases r with
            | nil => simp only [e1 x (by rw [toList_two hx]; simp), e1 y (by rw [toList_two hx]; simp)]
            | cons z r => rfl

theorem okSt_congr {base : Nat} {m : Mem} {o : Oper} {v v' : Operand → AV} (h : ∀ x ∈ o.op.operands, v x = v' x) : okSt base v m o = okSt base v' m o := by
  obtain ⟨dst, op, type, pos, after, guard⟩ := o
  cases op <;> simp only [Op.operands] at h <;> simp only [okSt]
  case load t a => rw [h a (by simp)]
  case store t a x => rw [h a (by simp), h x (by simp)]

theorem dOk_congr {d : Option (List Nat)} {i base : Nat} {m : Mem} {o : Oper} {v v' : Operand → AV} (h : ∀ x ∈ o.op.operands, v x = v' x) : dOk d i base v m o = dOk d i base v' m o := by
  cases d with
  | none => rfl
  | some mx => simp only [dOk, okM_congr h, okSt_congr h, (sem_congr (T := fun _ => none) (orc := fun _ _ _ => none) (k := 0) (m := default) (base := base) h).2]

/-- the work of one operation -/
noncomputable def step (T : Tab) (orc : Orc) (mx : List Nat) (n : Nat) (ops : List Oper) (base : Nat) (o : Oper) (k : Nat) (ts : List AV) (m : Mem) : Option (AV × Mem) :=
  match goes ops ts o with
  | some true => if !dOk (some mx) n base (opval ts) m o then none else match semD T orc o k (opval ts) m with
    | some (a, m') => if gOk (some mx) n o m m' then some (dW (some mx) n o a, m') else none
    | none => none
  | some false => some (.undef, m)
  | none => none

theorem evOp_step {T : Tab} {orc : Orc} {mx : List Nat} {ops : List Oper} {base i : Nat} {st : St} {o : Oper} (ho : ops[i]? = some o) :
    evOp T orc (some mx) ops base i st = (step T orc mx i ops base o (base + rank ops i) st.tmps st.mem).map fun p => { tmps := putT st.tmps o.dst p.1, mem := p.2 } := by
  unfold evOp step semX
  simp only [ho]
  cases hg : goes ops st.tmps o with
  | none => rfl
  | some b =>
    cases b with
    | false => rfl
    | true =>
      simp only
      split
      · rfl
      · cases semD T orc o (base + rank ops i) (opval st.tmps) st.mem with
        | none => rfl
        | some p =>
          simp only
          split <;> rfl

theorem step_put {T : Tab} {orc : Orc} {mx : List Nat} {n : Nat} {ops : List Oper} {base k : Nat} {o : Oper} {ts : List AV} {m : Mem} {dx : Option Nat} {a : AV} (h : ∀ d, dx = some d → (looks ops o).contains d = false) :
    step T orc mx n ops base o k (putT ts dx a) m = step T orc mx n ops base o k ts m := by
  cases dx with
  | none => rfl
  | some d =>
    have hd := h d rfl
    have hop : ∀ x ∈ o.op.operands, opval (ts.set d a) x = opval ts x := fun x hx => opval_put fun e => by
      subst e
      have : d ∈ looks ops o := List.mem_append_left _ (List.mem_filterMap.2 ⟨.tmp d, by simpa using hx, rfl⟩)
      simp [this] at hd
    have hg : goes ops (ts.set d a) o = goes ops ts o := by
      unfold goes
      cases hgd : o.guard with
      | none => rfl
      | some gw =>
        obtain ⟨g, want⟩ := gw
        simp only
        cases ht : (ops[g]?).bind (·.dst) with
        | none => rfl
        | some t =>
          have hne : d ≠ t := fun e => by
            subst e
            have : d ∈ looks ops o := by simp [looks, hgd, ht]
            simp [this] at hd
          simp only [List.getElem?_set_ne hne]
    unfold step
    simp only [putT, hg, (sem_congr (T := T) (orc := orc) (k := k) (m := m) (base := base) hop).1, dOk_congr (d := some mx) (i := n) (base := base) (m := m) hop]

/-! ### operations that neither read nor turn memory -/

theorem sem_P {T : Tab} {orc : Orc} {o : Oper} {k : Nat} {v : Operand → AV} (hp : isP T o = true) : ∃ r : Option AV, ∀ m, semD T orc o k v m = r.map (·, m) := by
  unfold isP at hp
  unfold semD sem
  cases hop : o.op <;> simp only [hop] at hp ⊢ <;> first
    | (cases hp; done)
    | exact ⟨_, fun m => rfl⟩
    | exact ⟨some _, fun m => rfl⟩
    | skip
  case convert sr d x =>
    unfold isIntT at hp
    split at hp
    · rename_i kk hk
      generalize v x = X
      refine ⟨match kindT T sr with
        | none => none
        | some _ => match X with
          | .dat (.int _ n) => some (wrapD kk n)
          | _ => none, fun m => ?_⟩
      unfold convert convertP
      simp only [hk]
      cases kindT T sr with
      | none => rfl
      | some ks =>
        cases X <;> first
          | rfl
          | (rename_i dd; cases dd <;> rfl)
    · cases hp
  case makeFunc f first caps =>
    cases f with
    | func f =>
      simp only
      by_cases hc : first.isEmpty = true ∧ ((caps.toList.map v).all AV.leaf = true)
      · exact ⟨some _, fun m => by rw [if_pos hc]; rfl⟩
      · exact ⟨none, fun m => by rw [if_neg hc]; rfl⟩
    | _ => exact ⟨none, fun m => rfl⟩
  case call c =>
    unfold call
    cases hc : c.callee with
    | value f => rw [hc] at hp; cases hp
    | invoke r n => rw [hc] at hp; cases hp
    | builtin b =>
      rw [hc] at hp
      cases b <;> first
        | (cases hp; done)
        | exact ⟨_, fun m => rfl⟩
        | skip
      case len =>
        simp only
        split
        · exact ⟨_, fun m => rfl⟩
        · exact ⟨none, fun m => rfl⟩

theorem okM_P {T : Tab} {o : Oper} {ro : Bool} {base : Nat} {v : Operand → AV} (hp : isP T o = true) (m m' : Mem) : okM ro base v m o = okM ro base v m' o := by
  unfold isP at hp
  unfold okM
  cases hop : o.op <;> simp only [hop] at hp ⊢ <;> first
    | rfl
    | cases hp

theorem okSt_P {T : Tab} {o : Oper} {base : Nat} {v : Operand → AV} (hp : isP T o = true) (m m' : Mem) : okSt base v m o = okSt base v m' o := by
  unfold isP at hp
  unfold okSt
  cases hop : o.op <;> simp only [hop] at hp ⊢ <;> first
    | rfl
    | cases hp

theorem dOk_P {T : Tab} {o : Oper} {d : Option (List Nat)} {i base : Nat} {v : Operand → AV} (hp : isP T o = true) (m m' : Mem) : dOk d i base v m o = dOk d i base v m' o := by
  cases d with
  | none => rfl
  | some mx => simp only [dOk, okM_P hp m m', okSt_P hp m m']

theorem dOk_okD {mx : List Nat} {i base : Nat} {v : Operand → AV} {m : Mem} {o : Oper} (ht : tied mx i o = false) (h : dOk (some mx) i base v m o = true) : okD base v o = true := by
  simp only [dOk, Bool.and_eq_true, ht, Bool.false_or] at h
  exact h.1

theorem gOk_of {d : Option (List Nat)} {i : Nat} {o : Oper} {m m' : Mem} (h : m'.G = m.G) : gOk d i o m m' = true := by
  cases d with
  | none => rfl
  | some mx => simp only [gOk, h, decide_true, Bool.or_true]

theorem step_P {T : Tab} {orc : Orc} {mx : List Nat} {n : Nat} {ops : List Oper} {o : Oper} {k base : Nat} {ts : List AV} (hp : isP T o = true) : ∃ r : Option AV, ∀ m, step T orc mx n ops base o k ts m = r.map (·, m) := by
  unfold step
  split
  · cases hok : dOk (some mx) n base (opval ts) default o with
    | false => exact ⟨none, fun m => by rw [dOk_P hp m default, hok]; rfl⟩
    | true =>
      obtain ⟨r, hr⟩ := sem_P (orc := orc) (k := k) hp
      refine ⟨r.map (dW (some mx) n o), fun m => ?_⟩
      rw [dOk_P hp m default, hok, hr m]
      cases r with
      | none => rfl
      | some a => simp only [Option.map_some, gOk_of (d := some mx) (i := n) (o := o) (m := m) (m' := m) rfl, Bool.not_true, Bool.false_eq_true, if_false, if_true]
  · exact ⟨some .undef, fun m => rfl⟩
  · exact ⟨none, fun m => rfl⟩

/-! ### operations that read what is older, and lay -/

structure Agree (base : Nat) (m m' : Mem) : Prop where
  L : ∀ i, i < base → m'.L[i]? = m.L[i]?
  G : m'.G = m.G
  ep : m'.ep = m.ep

def RForm (f : Mem → Option (AV × Mem)) (base k : Nat) (lay : Bool) : Prop :=
  ∀ m, ∃ r : Option (AV × Option Ent), (∀ a e, r = some (a, some e) → lay = true) ∧ ∀ m', Agree base m m' → f m' = r.map fun p => (p.1, putE m' k p.2)

theorem agree_get {base : Nat} {m m' : Mem} (h : Agree base m m') {i : Nat} (hi : i < base) : m'.get (.loc i) = m.get (.loc i) := by
  simp only [Mem.get, h.L i hi]

theorem agree_rowAt {base : Nat} {m m' : Mem} (h : Agree base m m') (g j e : Nat) : m'.rowAt g j e = m.rowAt g j e := by
  simp only [Mem.rowAt, h.G, h.ep]

theorem agree_res {base : Nat} {m m' : Mem} (h : Agree base m m') {i : Nat} (hi : i < base) : m'.res (.loc i) = m.res (.loc i) := by
  simp only [Mem.res, h.L i hi]

theorem agree_ent {base : Nat} {m m' : Mem} (h : Agree base m m') {r : Ref} {off : Nat} (ho : old base (.ptr r off) = true) : m'.ent r = m.ent r ∧ m'.res r = m.res r := by
  cases r with
  | loc i =>
    have hi : i < base := by simpa [old] using ho
    refine ⟨?_, agree_res h hi⟩
    simp only [Mem.ent, agree_res h hi]
    cases hr : m.res (.loc i) with
    | loc j =>
      have := res_loc hr
      injection this with this
      subst this
      exact agree_get h hi
    | glob g => simp only [Mem.get, h.G]
  | glob g => exact ⟨by simp only [Mem.ent, Mem.res, Mem.get, h.G], rfl⟩

theorem load_agree {T : Tab} {base : Nat} {m m' : Mem} (h : Agree base m m') {t : TypeId} {a : AV} (ho : old base a = true) : load T m' t a = load T m t a := by
  unfold load
  cases hT : T t with
  | none => rfl
  | some ti =>
    cases a <;> simp only
    case ptr r off =>
      obtain ⟨h1, h2⟩ := agree_ent h ho
      simp only [h1, h2, asVal, h.ep]
    case ept i sz k off => rw [agree_get h (by simpa [old] using ho)]
    case gept g j e sz k off => rw [agree_rowAt h]

theorem rd_agree {base : Nat} {m m' : Mem} (h : Agree base m m') {a : AV} (ho : old base a = true) : rd m' a = rd m a := by
  unfold rd
  cases a <;> try rfl
  case dat d => cases d <;> rfl
  case sh f i sz off len => simp only [agree_get h (by simpa [old] using ho)]
  case gh f g j e sz off len => simp only [agree_rowAt h]

def plainD : List AV → Option (List D)
  | [] => some []
  | .dat d :: r => (plainD r).map (d :: ·)
  | _ => none

theorem snap_plain {m : Mem} : ∀ {cs : List AV}, cs.all plain = true → mapS snap m cs = (plainD cs).map (·, m)
  | [], _ => rfl
  | a :: r, h => by
    simp only [List.all_cons, Bool.and_eq_true] at h
    have ih := snap_plain (m := m) h.2
    cases a <;> simp only [plain] at h <;> first
      | (cases h.1; done)
      | skip
    case dat d =>
      simp only [mapS, snap, ih, plainD]
      cases plainD r <;> rfl
    all_goals rfl

theorem fillP_plain {place : Nat → Option (Nat × Nat)} : ∀ (ps : List (Nat × AV)) (cs cs' : List AV), fillP place cs ps = some cs' → cs.all plain = true → (∀ p ∈ ps, p.2.cells.all plain = true) → cs'.all plain = true
  | [], cs, cs', h, hc, _ => by
    simp only [fillP, Option.some.injEq] at h
    rw [← h]; exact hc
  | (i, v) :: r, cs, cs', h, hc, hp => by
    simp only [fillP] at h
    split at h
    · cases h
    · split at h
      · refine fillP_plain r _ cs' h ?_ fun p hm => hp p (by simp [hm])
        simp only [List.all_eq_true] at hc ⊢
        intro x hx
        simp only [splice, List.mem_append] at hx
        rcases hx with (hx | hx) | hx
        · exact hc x (List.mem_of_mem_take hx)
        · have := hp (i, v) (by simp)
          simp only [List.all_eq_true] at this
          exact this x hx
        · exact hc x (List.mem_of_mem_drop hx)
      · cases h

theorem zero_plain {P : Program} {T : Tab} (hT : TabOk P T) {t : TypeId} {ti : TI} (h : T t = some ti) : ti.zero.all plain = true := by
  obtain ⟨_, _, z, f⟩ := hT.facts h
  have hz := f.zeros
  generalize ti.zero = as at hz
  generalize z.cells.toList = vs at hz
  induction as generalizing vs with
  | nil => rfl
  | cons a r ih =>
    cases vs with
    | nil => simp [zerosOk] at hz
    | cons v s =>
      simp only [zerosOk, Bool.and_eq_true] at hz
      simp only [List.all_cons, Bool.and_eq_true]
      refine ⟨?_, ih s hz.2⟩
      have := hz.1
      unfold zeroOk at this
      split at this <;> first | rfl | cases this

theorem zeroCells_plain {z : List AV} (h : z.all plain = true) : ∀ n, (zeroCells z n).all plain = true
  | 0 => rfl
  | n + 1 => by simp only [zeroCells, List.all_append, h, zeroCells_plain h n, Bool.and_self]

theorem keep_not {m : Mem} : ∀ {cs : List AV}, cs.all notGh = true → mapS keep m cs = some (cs, m)
  | [], _ => rfl
  | a :: r, h => by
    simp only [List.all_cons, Bool.and_eq_true] at h
    have ih := keep_not (m := m) h.2
    have : keep m a = some (a, m) := by
      unfold keep
      split
      · simp [notGh] at h
      · rfl
    simp only [mapS, this, ih]

theorem news_agree {base : Nat} {m m' : Mem} (h : Agree base m m') {y : AV} (ho : old base y = true) (sz : Nat) : newsOf m' sz y = newsOf m sz y := by
  unfold newsOf
  split
  · rfl
  · rw [rd_agree h ho]

/-- an append to data -/
def appendD (T : Tab) (k : Nat) (t t2 : TypeId) (d : D) (news : Nat → Option Row) : Option (AV × Option Ent) :=
  match T t with
  | some ti => match ti.k with
    | .slice e => match T e with
      | some te => if te.zero.length = te.size ∧ 0 < te.size ∧ (isSlT T t2 || isStrT T t2) = true then
          match news te.size with
          | some ys => match d with
            | .list .nil _ [] =>
                if ys.length * te.bytes ≤ 140737488355328 ∧ ys.length ≤ 9223372036854775807 then
                  (match ys with
                  | [] => some (.dat (.list .nil 0 []), none)
                  | _ => some (.sh false k te.size 0 ys.length, some (.row .excl te.size ys)))
                else none
            | .list .full sz xs =>
                if sz = te.size ∧ (xs.length + ys.length) * te.bytes ≤ 140737488355328 ∧ xs.length + ys.length ≤ 9223372036854775807 then
                  (match ys with
                  | [] => some (.dat (.list .full sz xs), none)
                  | _ => some (.sh false k sz 0 (xs.length + ys.length), some (.row .excl sz (xs ++ ys))))
                else none
            | _ => none
          | none => none
        else none
      | none => none
    | _ => none
  | none => none

theorem append_D {T : Tab} {m : Mem} {k : Nat} {t t2 : TypeId} {d : D} {y : AV} : append T m k t t2 (.dat d) y = (appendD T k t t2 d fun sz => newsOf m sz y).map fun p => (p.1, putE m k p.2) := by
  unfold append appendD
  cases T t with
  | none => rfl
  | some ti =>
    simp only
    cases ti.k with
    | slice e =>
      simp only
      cases T e with
      | none => rfl
      | some te =>
        simp only
        split
        · cases newsOf m te.size y with
          | none => rfl
          | some ys =>
            simp only
            cases d with
            | list lk sz xs =>
              cases lk with
              | nil =>
                cases xs with
                | nil =>
                  simp only
                  split
                  · cases ys <;> rfl
                  · rfl
                | cons a l => rfl
              | any => rfl
              | full =>
                simp only
                split
                · cases ys <;> rfl
                · rfl
            | _ => rfl
        · rfl
    | _ => rfl

theorem sem_R {P : Program} {T : Tab} (hT : TabOk P T) {orc : Orc} {o : Oper} {k base : Nat} {v : Operand → AV} (hr : isR o = true) (hok : okD base v o = true) : RForm (semD T orc o k v) base k (lays o) := by
  unfold isR at hr
  unfold okD at hok
  intro m
  cases hop : o.op <;> simp only [hop] at hr hok <;> first
    | (cases hr; done)
    | skip
  case load t a =>
    refine ⟨(load T m t (v a)).map (·, none), fun a' e h => ?_, fun m' hm => ?_⟩
    · obtain ⟨_, _, h⟩ := map_some h
      cases h
    · simp only [semD, sem, hop, load_agree hm hok]
      cases load T m t (v a) <;> rfl
  case convert s d x =>
    refine ⟨convertP T (rd m (v x)) k s d (v x), fun _ _ _ => by simp [lays, hop], fun m' hm => ?_⟩
    simp only [semD, sem, hop, convert, rd_agree hm hok]
  case alloc t =>
    refine ⟨(T t).map fun ti => (.ptr (.loc k) 0, some (.obj ti.zero)), fun _ _ _ => by simp [lays, hop], fun m' hm => ?_⟩
    simp only [semD, sem, hop, alloc]
    cases T t <;> rfl
  case box t x =>
    refine ⟨if (v x).cells.all AV.leaf = true then some (.ptr (.loc k) 0, some (.obj (v x).cells)) else none, fun _ _ _ => by simp [lays, hop], fun m' hm => ?_⟩
    simp only [semD, sem, hop, box, keep_not hok]
    split <;> rfl
  case buildSlice t n ps =>
    have hps : ∀ p ∈ ps.toList.map (fun p => (p.1, v p.2)), p.2.cells.all plain = true := by
      intro p hp
      obtain ⟨q, hq, rfl⟩ := List.mem_map.1 hp
      simp only [List.all_eq_true] at hok
      simp only [List.all_eq_true]
      exact hok q hq
    have key : ∀ qs : List (Nat × AV), (∀ p ∈ qs, p.2.cells.all plain = true) → ∃ r : Option (AV × Option Ent), ∀ m', buildSlice T m' k t n qs = r.map fun p => (p.1, putE m' k p.2) := by
      intro qs hqs
      unfold buildSlice
      cases hti : T t with
      | none => exact ⟨none, fun m' => rfl⟩
      | some ti =>
        simp only
        cases hk : ti.k with
        | slice e =>
          simp only
          cases hte : T e with
          | none => exact ⟨none, fun m' => rfl⟩
          | some te =>
            simp only
            split
            · rename_i hc
              cases hf : fillP (fun i => some (i * te.size, te.size)) (zeroCells te.zero n) qs with
              | none => exact ⟨none, fun m' => rfl⟩
              | some cs =>
                have hpl := fillP_plain qs _ cs hf (zeroCells_plain (zero_plain hT hte) n) hqs
                simp only [snap_plain hpl]
                cases plainD cs with
                | none => exact ⟨none, fun m' => rfl⟩
                | some ds => exact ⟨some (.sh true k te.size 0 n, some (.row .excl te.size (chunks te.size n ds))), fun m' => rfl⟩
            · exact ⟨none, fun m' => rfl⟩
        | _ => exact ⟨none, fun m' => rfl⟩
    obtain ⟨r, h⟩ := key _ hps
    exact ⟨r, fun _ _ _ => by simp [lays, hop], fun m' _ => by simp only [semD, sem, hop]; exact h m'⟩
  case makeSlice t x y =>
    have key : ∀ X Y : AV, ∃ r : Option (AV × Option Ent), ∀ m', makeSlice T m' k t X Y = r.map fun p => (p.1, putE m' k p.2) := by
      intro X Y
      unfold makeSlice
      split
      · cases hti : T t with
        | none => exact ⟨none, fun m' => rfl⟩
        | some ti =>
          simp only
          cases hk : ti.k with
          | slice e =>
            simp only
            cases hte : T e with
            | none => exact ⟨none, fun m' => rfl⟩
            | some te =>
              simp only [snap_plain (zero_plain hT hte)]
              cases plainD te.zero with
              | none => exact ⟨none, fun m' => rfl⟩
              | some z =>
                simp only [Option.map_some]
                split
                · exact ⟨some (_, some _), fun m' => rfl⟩
                · exact ⟨none, fun m' => rfl⟩
          | _ => exact ⟨none, fun m' => rfl⟩
      · exact ⟨none, fun m' => rfl⟩
    obtain ⟨r, h⟩ := key (v x) (v y)
    exact ⟨r, fun _ _ _ => by simp [lays, hop], fun m' _ => by simp only [semD, sem, hop]; exact h m'⟩

theorem sem_A {T : Tab} {orc : Orc} {o : Oper} {k base : Nat} {v : Operand → AV} {ro : Bool} {m0 : Mem} (hr : isA o = true) (hok : okM ro base v m0 o = true) : RForm (semD T orc o k v) base k (lays o) := by
  unfold isA at hr
  unfold okM at hok
  intro m
  cases hop : o.op <;> simp only [hop] at hr hok <;> first
    | (cases hr; done)
    | skip
  case call c =>
    cases hcl : c.callee with
    | value f => simp only [hcl] at hr; cases hr
    | invoke a b => simp only [hcl] at hr; cases hr
    | builtin b =>
      cases b <;> simp only [hcl] at hr hok <;> first
        | (cases hr; done)
        | skip
      cases hargs : c.args.toList with
      | nil => exact ⟨none, fun _ _ h => (by cases h), fun m' _ => by simp only [semD, sem, hop, call, hcl, hargs]; rfl⟩
      | cons x r =>
        cases r with
        | nil => exact ⟨none, fun _ _ h => (by cases h), fun m' _ => by simp only [semD, sem, hop, call, hcl, hargs]; rfl⟩
        | cons y r =>
          cases r with
          | cons z r => exact ⟨none, fun _ _ h => (by cases h), fun m' _ => by simp only [semD, sem, hop, call, hcl, hargs]; rfl⟩
          | nil =>
            simp only [hargs, Bool.and_eq_true] at hok
            obtain ⟨_, hx, hy⟩ := hok
            cases hvx : v x with
            | dat d =>
              cases hty : c.argTypes.toList with
              | nil => exact ⟨none, fun _ _ h => (by cases h), fun m' _ => by simp only [semD, sem, hop, call, hcl, hargs, hty]; rfl⟩
              | cons t r =>
                cases r with
                | nil => exact ⟨none, fun _ _ h => (by cases h), fun m' _ => by simp only [semD, sem, hop, call, hcl, hargs, hty]; rfl⟩
                | cons t2 r =>
                  cases r with
                  | cons t3 r => exact ⟨none, fun _ _ h => (by cases h), fun m' _ => by simp only [semD, sem, hop, call, hcl, hargs, hty]; rfl⟩
                  | nil =>
                    refine ⟨appendD T k t t2 d fun sz => newsOf m sz (v y), fun _ _ _ => by simp [lays, hop, hcl], fun m' hm => ?_⟩
                    simp only [semD, sem, hop, call, hcl, hargs, hty, hvx, append_D, news_agree hm hy]
            | _ => rw [hvx] at hx; simp [isDatA] at hx

theorem dOk_agree {mx : List Nat} {n base : Nat} {v : Operand → AV} {m m' : Mem} (h : Agree base m m') (o : Oper) : dOk (some mx) n base v m' o = dOk (some mx) n base v m o := by
  have e : okM (roM mx) base v m' o = okM (roM mx) base v m o := by
    unfold okM
    split
    · split
      · rfl
      · rename_i i _ _
        by_cases hi : i < base
        · rw [h.L i hi]
        · simp [hi]
      · rfl
      · rfl
    · rfl
    · rfl
  have e2 : okSt base v m' o = okSt base v m o := by
    unfold okSt
    split
    · rfl
    · congr 1
      split
      · rename_i i _ _
        by_cases hi : i < base
        · rw [h.L i hi]
        · simp [hi]
      · rfl
    · rfl
  simp only [dOk, e, e2]

theorem putE_G {m : Mem} {k : Nat} {e : Option Ent} : (putE m k e).G = m.G := by cases e <;> rfl

theorem step_R {P : Program} {T : Tab} (hT : TabOk P T) {orc : Orc} {mx : List Nat} {n : Nat} {ops : List Oper} {o : Oper} {k base : Nat} {ts : List AV} (hr : isRA mx n o = true) : RForm (step T orc mx n ops base o k ts) base k (lays o) := by
  intro m
  unfold step
  cases goes ops ts o with
  | none => exact ⟨none, fun _ _ h => (by cases h), fun m' hm => rfl⟩
  | some b =>
    cases b with
    | false => exact ⟨some (.undef, none), fun _ _ h => (by simp at h), fun m' hm => rfl⟩
    | true =>
      cases hok : dOk (some mx) n base (opval ts) m o with
      | false => exact ⟨none, fun _ _ h => (by cases h), fun m' hm => by simp only [dOk_agree hm, hok]; rfl⟩
      | true =>
        have hform : RForm (semD T orc o k (opval ts)) base k (lays o) := by
          unfold isRA at hr
          simp only [Bool.or_eq_true, Bool.and_eq_true, Bool.not_eq_true'] at hr
          rcases hr with ⟨hr, ht⟩ | ⟨hr, hmx⟩
          · exact sem_R hT hr (dOk_okD ht hok)
          · simp only [dOk, hmx, Bool.not_true, Bool.false_or, Bool.and_eq_true] at hok
            exact sem_A hr hok.2.1
        obtain ⟨r, h1, h2⟩ := hform m
        refine ⟨r.map fun p => (dW (some mx) n o p.1, p.2), fun a e h => ?_, fun m' hm => ?_⟩
        · obtain ⟨p, hp, h⟩ := Option.map_eq_some_iff.1 h
          simp only [Prod.mk.injEq] at h
          obtain ⟨p1, p2⟩ := p
          simp only at h
          rw [h.2] at hp
          exact h1 _ _ hp
        · simp only [dOk_agree hm, hok, h2 m' hm]
          cases r with
          | none => rfl
          | some p => simp only [Option.map_some, gOk_of (d := some mx) (i := n) (o := o) (m := m') putE_G, Bool.not_true, Bool.false_eq_true, if_false, if_true]

/-! ### a load beside a call -/

def isRowO : Option (Option Ent) → Bool
  | some (some (.row _ _ _)) => true
  | _ => false

/-- own objects are alike; everybody's, where that is asked -/
def Same2 (base : Nat) (ro : Bool) (m m' : Mem) : Prop := (∀ i : Nat, i < base → isPinO m.L[i]? = true → m'.L[i]? = m.L[i]?) ∧ (ro = true → m'.G = m.G)

/-- own entities are alike, but for rows -/
def LRel (m m' : Mem) : Prop := ∀ i : Nat, m'.L[i]? = m.L[i]? ∨ (isRowO m.L[i]? = true ∧ isRowO m'.L[i]? = true)

theorem LRel.refl (m : Mem) : LRel m m := fun _ => .inl rfl

theorem LRel.trans {a b c : Mem} (h1 : LRel a b) (h2 : LRel b c) : LRel a c := fun i => by
  rcases h1 i with h1 | ⟨h1, h1'⟩ <;> rcases h2 i with h2 | ⟨h2, h2'⟩
  · exact .inl (h2.trans h1)
  · rw [h1] at h2; exact .inr ⟨h2, h2'⟩
  · rw [← h2] at h1'; exact .inr ⟨h1, h1'⟩
  · exact .inr ⟨h1, h2'⟩

theorem pin_row {x : Option (Option Ent)} (h : isPinO x = true) (h2 : isRowO x = true) : False := by
  unfold isPinO at h
  unfold isRowO at h2
  split at h <;> first | (cases h; done) | cases h2

theorem snap_L {m m' : Mem} {a : AV} {d : D} (h : snap m a = some (d, m')) : LRel m m' := by
  unfold snap at h
  split at h
  · simp only [Option.some.injEq, Prod.mk.injEq] at h; rw [← h.2]; exact .refl _
  · rename_i f i sz off len
    split at h
    · rename_i md sz' xs hm
      split at h
      · simp only [Option.some.injEq, Prod.mk.injEq] at h
        rw [← h.2]
        cases md with
        | excl =>
          intro j
          simp only [Mem.set]
          by_cases hj : j = i
          · subst hj
            right
            have hL : m.L[j]? = some (some (.row .excl sz' xs)) := by
              simp only [Mem.get] at hm
              split at hm
              · rename_i o ho
                rw [ho, hm]
              · cases hm
            rw [hL]
            refine ⟨rfl, ?_⟩
            obtain ⟨hlt, _⟩ := List.getElem?_eq_some_iff.1 hL
            rw [List.getElem?_set_self hlt]
            rfl
          · left
            rw [List.getElem?_set_ne (fun e => hj e.symm)]
        | own => exact .refl _
        | ro => exact .refl _
      · cases h
    · cases h
  · split at h
    · rename_i md sz' xs hm
      split at h
      · simp only [Option.some.injEq, Prod.mk.injEq] at h
        rw [← h.2]
        cases md with
        | excl =>
          intro j
          left
          show (Mem.setRow _ _ _ _).L[j]? = _
          unfold Mem.setRow
          split <;> rfl
        | own => exact .refl _
        | ro => exact .refl _
      · cases h
    · cases h
  · cases h

theorem pass1_L {m m' : Mem} {a b : AV} (h : pass1 m a = some (b, m')) : LRel m m' := by
  unfold pass1 at h
  split at h
  all_goals first
    | (cases h; done)
    | (simp only [Option.some.injEq, Prod.mk.injEq] at h; rw [← h.2]; exact .refl _)
    | skip
  · split at h
    · rename_i d m1 hs
      simp only [Option.some.injEq, Prod.mk.injEq] at h
      rw [← h.2]
      exact snap_L hs
    · cases h
  · split at h
    · rename_i d m1 hs
      simp only [Option.some.injEq, Prod.mk.injEq] at h
      rw [← h.2]
      exact snap_L hs
    · cases h
  · split at h
    · simp only [Option.some.injEq, Prod.mk.injEq] at h; rw [← h.2]; exact .refl _
    · cases h

theorem mapS_L {f : Mem → AV → Option (AV × Mem)} : ∀ (l : List AV) (m : Mem) (r : List AV) (m' : Mem), (∀ m a b m', a ∈ l → f m a = some (b, m') → LRel m m') → mapS f m l = some (r, m') → LRel m m'
  | [], m, r, m', _, h => by
    simp only [mapS, Option.some.injEq, Prod.mk.injEq] at h
    rw [← h.2]; exact .refl _
  | a :: l, m, r, m', hf, h => by
    simp only [mapS] at h
    split at h
    · rename_i b m1 h1
      split at h
      · rename_i bs m2 h2
        simp only [Option.some.injEq, Prod.mk.injEq] at h
        rw [← h.2]
        exact (hf m a b m1 (by simp) h1).trans (mapS_L l m1 bs m2 (fun m a b m' ha => hf m a b m' (by simp [ha])) h2)
      · cases h
    · cases h

theorem passC_L {m m' : Mem} {a b : AV} (hn : noLoc0 a = true) (h : passC m a = some (b, m')) : LRel m m' := by
  unfold passC at h
  split at h
  · rename_i r off
    cases r with
    | loc i => simp [noLoc0] at hn
    | glob g =>
      simp only [give, givePtr, Mem.res, Option.some.injEq, Prod.mk.injEq] at h
      rw [← h.2]; exact .refl _
  · exact pass1_L h

theorem pass_L {m m' : Mem} {a b : AV} (hn : noLocA a = true) (h : pass m a = some (b, m')) : LRel m m' := by
  unfold pass at h
  split at h
  · split at h
    · rename_i ds m1 hs
      simp only [Option.some.injEq, Prod.mk.injEq] at h
      rw [← h.2]
      exact mapS_L _ _ _ _ (fun _ a _ _ ha h => passC_L (List.all_eq_true.1 hn a ha) h) hs
    · cases h
  · split at h
    · rename_i ds m1 hs
      simp only [Option.some.injEq, Prod.mk.injEq] at h
      rw [← h.2]
      exact mapS_L _ _ _ _ (fun _ a _ _ ha h => passC_L (List.all_eq_true.1 hn a ha) h) hs
    · cases h
  · rename_i r off
    cases r with
    | loc i => simp [noLocA, noLoc0] at hn
    | glob g =>
      simp only [give, givePtr, Mem.res, Option.some.injEq, Prod.mk.injEq] at h
      rw [← h.2]; exact .refl _
  · exact pass1_L h

theorem take_L {m m' : Mem} {k : Nat} {a b : AV} (h : take m k a = some (b, m')) : ∀ i : Nat, i ≠ k → m'.L[i]? = m.L[i]? := by
  intro i hi
  unfold take at h
  split at h
  · simp only [Option.some.injEq, Prod.mk.injEq] at h
    rw [← h.2]
    simp only [Mem.set]
    rw [List.getElem?_set_ne (fun e => hi e.symm)]
  all_goals first
    | (cases h; done)
    | (simp only [Option.some.injEq, Prod.mk.injEq] at h; rw [← h.2])

theorem callF_L {orc : Orc} {m m' : Mem} {k : Nat} {f : FuncId} {args : List AV} {b : AV} (hn : args.all noLocA = true) (h : callF orc m k f args = some (b, m')) :
    ∀ i : Nat, i ≠ k → m'.L[i]? = m.L[i]? ∨ (isRowO m.L[i]? = true ∧ isRowO m'.L[i]? = true) := by
  intro i hi
  unfold callF at h
  split at h
  · rename_i as m1 h1
    split at h
    · rename_i r G h2
      have h3 := take_L h i hi
      have h4 := mapS_L _ _ _ _ (fun _ a _ _ ha h => pass_L (List.all_eq_true.1 hn a ha) h) h1 i
      rw [h3]
      exact h4
    · cases h
  · cases h

theorem step_Cv {T : Tab} {orc : Orc} {mx : List Nat} {n : Nat} {ops : List Oper} {o : Oper} {k base : Nat} {ts : List AV} {m m' : Mem} {b : AV} (hc : isCv o = true) (hm : mx.contains n = true) (hk : base ≤ k)
    (h : step T orc mx n ops base o k ts m = some (b, m')) : Same2 base (roM mx) m m' ∧ Same2 base (roM mx) m' m := by
  have key : (∀ i : Nat, i < base → m'.L[i]? = m.L[i]? ∨ (isRowO m.L[i]? = true ∧ isRowO m'.L[i]? = true)) ∧ (roM mx = true → m'.G = m.G) := by
    unfold step at h
    split at h
    · split at h
      · cases h
      · rename_i hok
        simp only [dOk, hm, Bool.not_true, Bool.false_or, Bool.not_eq_true, Bool.not_eq_false', Bool.and_eq_true] at hok
        have hok := hok.2.1
        split at h
        · rename_i a m1 hsem
          split at h
          · rename_i hg
            simp only [Option.some.injEq, Prod.mk.injEq] at h
            obtain ⟨_, rfl⟩ := h
            constructor
            · intro i hi
              have hc2 := hc
              unfold isCv at hc2
              split at hc2
              · rename_i c hop
                split at hc2
                · rename_i f hcal
                  simp only [okM, hop, hcal, Bool.and_eq_true] at hok
                  simp only [semD, sem, hop, call, hcal] at hsem
                  split at hsem
                  · rename_i g caps hv
                    simp only [hv] at hok
                    split at hsem
                    case isFalse => cases hsem
                    refine callF_L ?_ hsem i (by omega)
                    rw [List.all_append, Bool.and_eq_true, List.all_map]
                    exact ⟨hok.1, hok.2⟩
                  · refine callF_L ?_ hsem i (by omega)
                    rw [List.all_map]
                    exact hok.1
                  · cases hsem
                · cases hc2
              · cases hc2
            · intro hro
              simp only [gOk, hm, hro, hc, Bool.and_self, Bool.not_true, Bool.false_or, decide_eq_true_eq] at hg
              exact hg
          · cases h
        · cases h
    · simp only [Option.some.injEq, Prod.mk.injEq] at h
      rw [← h.2]; exact ⟨fun _ _ => .inl rfl, fun _ => rfl⟩
    · cases h
  refine ⟨⟨fun i hi ho => ?_, key.2⟩, ⟨fun i hi ho => ?_, fun hr => (key.2 hr).symm⟩⟩
  · rcases key.1 i hi with h1 | ⟨h1, _⟩
    · exact h1
    · exact (pin_row ho h1).elim
  · rcases key.1 i hi with h1 | ⟨_, h1⟩
    · exact h1.symm
    · exact (pin_row ho h1).elim

theorem asVal_weak {m m2 : Mem} {w : Option (Nat × Nat)} {agg : Bool} {cs : List AV} : (asVal m2 w agg cs).map weak = (asVal m w agg cs).map weak := by
  unfold asVal
  split
  · rfl
  · split
    · split <;> rfl
    · rfl
    · rfl

theorem load_weak {T : Tab} {m m2 : Mem} {t : TypeId} {r : Ref} {off : Nat} (h1 : m2.res r = m.res r) (h2 : m2.get (m.res r) = m.get (m.res r)) : (load T m2 t (.ptr r off)).map weak = (load T m t (.ptr r off)).map weak := by
  unfold load
  cases T t with
  | none => rfl
  | some ti =>
    simp only [Mem.ent, h1, h2]
    split
    · split
      · exact asVal_weak
      · rfl
    · rfl

theorem okSt_load {o : Oper} {base : Nat} {v : Operand → AV} (hl : isLd o = true) (m m' : Mem) : okSt base v m o = okSt base v m' o := by
  unfold isLd at hl
  unfold okSt
  cases hop : o.op <;> simp only [hop] at hl ⊢ <;> first
    | rfl
    | cases hl

theorem step_Ld {T : Tab} {orc : Orc} {mx : List Nat} {n : Nat} {ops : List Oper} {o : Oper} {k base : Nat} {ts : List AV} {m m' : Mem} {a : AV} (hl : isLd o = true) (hm : mx.contains n = true)
    (h : step T orc mx n ops base o k ts m = some (a, m')) : m' = m ∧ ∀ m2, Same2 base (roM mx) m m2 → step T orc mx n ops base o k ts m2 = some (a, m2) := by
  have hl2 := hl
  unfold isLd at hl2
  split at hl2
  · rename_i t x hop
    unfold step at h ⊢
    split at h
    · rename_i hg
      split at h
      · cases h
      · rename_i hok
        simp only [dOk, hm, Bool.not_true, Bool.false_or, Bool.not_eq_true, Bool.not_eq_false', Bool.and_eq_true] at hok
        split at h
        · rename_i a0 m1 hsem
          simp only [semD, sem, hop] at hsem
          obtain ⟨a1, h1, h2⟩ := Option.map_eq_some_iff.1 hsem
          simp only [Prod.mk.injEq] at h2
          obtain ⟨rfl, rfl⟩ := h2
          simp only [gOk_of (d := some mx) (i := n) (o := o) (m := m) (m' := m) rfl, if_true, Option.some.injEq, Prod.mk.injEq] at h
          obtain ⟨rfl, rfl⟩ := h
          refine ⟨rfl, fun m2 hs => ?_⟩
          have hM := hok.2.1
          simp only [okM, hop] at hM
          have both : okM (roM mx) base (opval ts) m2 o = true ∧ ∃ a2, load T m2 t (opval ts x) = some a2 ∧ dW (some mx) n o a2 = dW (some mx) n o a1 := by
            simp only [okM, hop]
            have ro_case : ∀ (r : Ref) (off : Nat), opval ts x = .ptr r off → roM mx = true → m2.res r = m.res r → m2.get (m.res r) = m.get (m.res r) → ∃ a2, load T m2 t (opval ts x) = some a2 ∧ dW (some mx) n o a2 = dW (some mx) n o a1 := by
              intro r off hx hro q1 q2
              rw [hx] at h1 ⊢
              have hw := load_weak (T := T) (t := t) (off := off) q1 q2
              rw [h1] at hw
              obtain ⟨a2, e1, e2⟩ := Option.map_eq_some_iff.1 hw
              refine ⟨a2, e1, ?_⟩
              simp only [dW, hm, hro, hl, Bool.and_self, if_true]
              exact e2
            split at hM
            · rename_i s1 xs1 k1 o1 hx
              rw [hx] at h1 ⊢
              exact ⟨rfl, a1, h1, rfl⟩
            · rename_i i off hx
              simp only [Bool.and_eq_true, decide_eq_true_eq] at hM
              have hpin : isPinO m.L[i]? = true := by
                have := hM.2
                unfold pinOk at this
                split at this
                · rename_i cs hL; rw [hL]; rfl
                · rename_i g hL; rw [hL]; rfl
                · cases this
              have hL := hs.1 i hM.1 hpin
              simp only [hx]
              refine ⟨by rw [hL]; simp [hM.1, hM.2], ?_⟩
              have q1 : m2.res (.loc i) = m.res (.loc i) := by simp only [Mem.res, hL]
              have hp2 := hM.2
              unfold pinOk at hp2
              split at hp2
              · rename_i cs hLi
                have r1 : m.res (.loc i) = .loc i := by simp only [Mem.res, hLi]
                have r2 : m2.res (.loc i) = .loc i := by rw [q1, r1]
                rw [hx] at h1
                refine ⟨a1, ?_, rfl⟩
                rw [← h1]
                unfold load
                simp only [Mem.ent, r1, r2, Mem.get, hL]
                cases T t with
                | none => rfl
                | some ti =>
                  simp only
                  split
                  · rename_i cs _
                    cases cellsAt cs off ti.size with
                    | none => rfl
                    | some l => rfl
                  · rfl
              · rename_i g hLi
                have r1 : m.res (.loc i) = .glob g := by simp only [Mem.res, hLi]
                have := ro_case (.loc i) off hx hp2 q1 (by rw [r1]; simp only [Mem.get, hs.2 hp2])
                rw [hx] at this
                exact this
              · cases hp2
            · rename_i g off hx
              have := ro_case (.glob g) off hx hM rfl (by simp only [Mem.res, Mem.get, hs.2 hM])
              simp only [hx]
              rw [hx] at this
              exact ⟨hM, this⟩
            · cases hM
          obtain ⟨b1, a2, b2, b3⟩ := both
          have hd : dOk (some mx) n base (opval ts) m2 o = true := by
            simp only [dOk, hm, Bool.not_true, Bool.false_or, Bool.and_eq_true]
            exact ⟨hok.1, b1, by rw [okSt_load hl m2 m]; simpa using hok.2.2⟩
          simp only [hg, hd, Bool.not_true, Bool.false_eq_true, if_false, semD, sem, hop, b2, Option.map_some, gOk_of (d := some mx) (i := n) (o := o) (m := m2) (m' := m2) rfl, if_true, b3]
        · cases h
    · rename_i hg
      simp only [Option.some.injEq, Prod.mk.injEq] at h
      obtain ⟨rfl, rfl⟩ := h
      exact ⟨rfl, fun m2 _ => by simp only [hg]⟩
    · cases h
  · cases hl2

/-! ### a load beside a store -/

theorem mapS_notGh : ∀ (l : List AV) (m : Mem), l.all notGh = true → mapS keep m l = some (l, m)
  | [], m, _ => rfl
  | a :: l, m, h => by
    simp only [List.all_cons, Bool.and_eq_true] at h
    have e : keep m a = some (a, m) := by
      cases a <;> first
        | rfl
        | (simp [notGh] at h; done)
    simp only [mapS, e, mapS_notGh l m h.2]

theorem step_St {T : Tab} {orc : Orc} {mx : List Nat} {n : Nat} {ops : List Oper} {o : Oper} {k base : Nat} {ts : List AV} {m m' : Mem} {b : AV} (hc : isSt o = true) (hm : mx.contains (2000000 + n) = true)
    (h : step T orc mx n ops base o k ts m = some (b, m')) : m'.G = m.G ∧ m'.ep = m.ep := by
  unfold step at h
  split at h
  · split at h
    · cases h
    · rename_i hok
      simp only [dOk, hm, Bool.not_true, Bool.false_or, Bool.not_eq_true, Bool.not_eq_false', Bool.and_eq_true] at hok
      have hok := hok.2.2
      split at h
      · rename_i a m1 hsem
        split at h
        · simp only [Option.some.injEq, Prod.mk.injEq] at h
          obtain ⟨_, rfl⟩ := h
          unfold isSt at hc
          split at hc
          · rename_i t a x hop
            simp only [okSt, hop, Bool.and_eq_true] at hok
            obtain ⟨h1, h2⟩ := hok
            simp only [semD, sem, hop] at hsem
            obtain ⟨m2, hs, e⟩ := Option.map_eq_some_iff.1 hsem
            simp only [Prod.mk.injEq] at e
            obtain ⟨_, rfl⟩ := e
            split at h1
            · rename_i i off ha
              simp only [Bool.and_eq_true, decide_eq_true_eq] at h1
              have hL := h1.2
              unfold isObjO at hL
              split at hL
              · rename_i cs hLi
                rw [ha] at hs
                unfold store at hs
                rw [mapS_notGh _ _ h2] at hs
                have r1 : m.res (.loc i) = .loc i := by simp only [Mem.res, hLi]
                simp only [r1] at hs
                repeat' split at hs
                all_goals first
                  | (cases hs; done)
                  | (simp only [Option.some.injEq] at hs; rw [← hs]; exact ⟨rfl, rfl⟩)
              · cases hL
            · cases h1
          · cases hc
        · cases h
      · cases h
  · simp only [Option.some.injEq, Prod.mk.injEq] at h
    rw [← h.2]; exact ⟨rfl, rfl⟩
  · cases h

theorem asVal_ep {m m2 : Mem} {w : Option (Nat × Nat)} {agg : Bool} {cs : List AV} (h : m2.ep = m.ep) : asVal m2 w agg cs = asVal m w agg cs := by
  unfold asVal
  rw [h]

theorem step_LdS {T : Tab} {orc : Orc} {mx : List Nat} {n : Nat} {ops : List Oper} {o : Oper} {k base : Nat} {ts : List AV} {m m' : Mem} {a : AV} (hl : isLd o = true) (hm : mx.contains (2000000 + n) = true)
    (h : step T orc mx n ops base o k ts m = some (a, m')) : m' = m ∧ ∀ m2, m2.G = m.G → m2.ep = m.ep → step T orc mx n ops base o k ts m2 = some (a, m2) := by
  have hl2 := hl
  unfold isLd at hl2
  split at hl2
  · rename_i t x hop
    unfold step at h ⊢
    split at h
    · rename_i hg
      split at h
      · cases h
      · rename_i hok
        simp only [dOk, hm, Bool.not_true, Bool.false_or, Bool.not_eq_true, Bool.not_eq_false', Bool.and_eq_true] at hok
        split at h
        · rename_i a0 m1 hsem
          simp only [semD, sem, hop] at hsem
          obtain ⟨a1, h1, h2⟩ := Option.map_eq_some_iff.1 hsem
          simp only [Prod.mk.injEq] at h2
          obtain ⟨rfl, rfl⟩ := h2
          simp only [gOk_of (d := some mx) (i := n) (o := o) (m := m) (m' := m) rfl, if_true, Option.some.injEq, Prod.mk.injEq] at h
          obtain ⟨rfl, rfl⟩ := h
          refine ⟨rfl, fun m2 hG hE => ?_⟩
          have hS := hok.2.2
          have hM := hok.2.1
          have hS2 : okSt base (opval ts) m2 o = true := by rw [okSt_load hl m2 m]; exact hS
          simp only [okSt, hop] at hS
          have both : okM (roM mx) base (opval ts) m2 o = okM (roM mx) base (opval ts) m o ∧ load T m2 t (opval ts x) = load T m t (opval ts x) := by
            simp only [okM, hop]
            split at hS
            · rename_i hx
              rw [hx]
              exact ⟨rfl, rfl⟩
            · rename_i g off hx
              rw [hx]
              refine ⟨rfl, ?_⟩
              unfold load
              cases T t with
              | none => rfl
              | some ti =>
                simp only [Mem.ent, Mem.res, Mem.get, hG]
                split
                · split
                  · exact asVal_ep hE
                  · rfl
                · rfl
            · cases hS
          have hd : dOk (some mx) n base (opval ts) m2 o = true := by
            simp only [dOk, hm, Bool.not_true, Bool.false_or, Bool.and_eq_true, both.1]
            exact ⟨hok.1, hM, hS2⟩
          simp only [hg, hd, Bool.not_true, Bool.false_eq_true, if_false, semD, sem, hop, both.2, h1, Option.map_some, gOk_of (d := some mx) (i := n) (o := o) (m := m2) (m' := m2) rfl, if_true]
        · cases h
    · rename_i hg
      simp only [Option.some.injEq, Prod.mk.injEq] at h
      obtain ⟨rfl, rfl⟩ := h
      exact ⟨rfl, fun m2 _ _ => by simp only [hg]⟩
    · cases h
  · cases hl2

theorem free_mono {T : Tab} {ops : List Oper} {mx mx' : List Nat} {i j : Nat} {x y : Oper} (hs : ∀ k, mx.contains k = true → mx'.contains k = true) (ht : ∀ k, mx'.contains (4000000 + k) = true → mx.contains (4000000 + k) = true) (h : free T ops mx i j x y = true) : free T ops mx' i j x y = true := by
  unfold free at h ⊢
  simp only [Bool.and_eq_true, Bool.or_eq_true] at h ⊢
  have hra : ∀ k o, isRA mx k o = true → isRA mx' k o = true := fun k o q => by
    unfold isRA at q ⊢
    simp only [Bool.or_eq_true, Bool.and_eq_true, Bool.not_eq_true'] at q ⊢
    refine q.imp (fun q => ⟨q.1, ?_⟩) fun q => ⟨q.1, hs _ q.2⟩
    have := q.2
    unfold tied at this ⊢
    cases hc : isCvt o with
    | false => rfl
    | true =>
      rw [hc, Bool.true_and] at this
      rw [Bool.true_and]
      cases hm : mx'.contains (4000000 + k) with
      | false => rfl
      | true => rw [ht _ hm] at this; cases this
  refine ⟨⟨h.1.1.imp (fun q => q.imp (fun q => q.imp id fun q => ⟨hra _ _ q.1, hra _ _ q.2⟩) fun q => ⟨q.1, hs _ q.2.1, hs _ q.2.2⟩) fun q => ⟨q.1, hs _ q.2.1, hs _ q.2.2⟩, h.1.2⟩, h.2⟩

/-! ### two that may go in either order -/

theorem putT_comm (ts : List AV) {x y : Option Nat} (a b : AV) (h : ∀ d, x = some d → y ≠ some d) : putT (putT ts x a) y b = putT (putT ts y b) x a := by
  cases x with
  | none => rfl
  | some d =>
    cases y with
    | none => rfl
    | some e =>
      have hne : d ≠ e := fun he => h d rfl (he ▸ rfl)
      exact List.set_comm _ _ hne

theorem free_spec {T : Tab} {ops : List Oper} {mx : List Nat} {i j : Nat} {x y : Oper} (h : free T ops mx i j x y = true) :
    ((isP T x || isP T y || (isRA mx i x && isRA mx j y) || (((isLd x && isCv y) || (isCv x && isLd y)) && (mx.contains i && mx.contains j)) || (((isLd x && isSt y) || (isSt x && isLd y)) && (mx.contains (2000000 + i) && mx.contains (2000000 + j)))) = true) ∧ (∀ d, x.dst = some d → (looks ops y).contains d = false) ∧ (∀ d, x.dst = some d → y.dst ≠ some d) ∧ (∀ d, y.dst = some d → (looks ops x).contains d = false) := by
  unfold free at h
  simp only [Bool.and_eq_true] at h
  obtain ⟨⟨h1, h2⟩, h3⟩ := h
  refine ⟨h1, fun d hd => ?_, fun d hd => ?_, fun d hd => ?_⟩
  · rw [hd] at h2; simp only [Bool.and_eq_true, Bool.not_eq_true'] at h2; exact h2.1
  · rw [hd] at h2; simp only [Bool.and_eq_true, bne_iff_ne] at h2; exact h2.2
  · rw [hd] at h3; simpa using h3

theorem agree_put {base k : Nat} {m : Mem} (h : base ≤ k) (e : Option Ent) : Agree base m (putE m k e) := by
  cases e with
  | none => exact ⟨fun _ _ => rfl, rfl, rfl⟩
  | some e =>
    refine ⟨fun i hi => ?_, rfl, rfl⟩
    simp only [putE, Mem.set]
    rw [set_get, if_neg (fun h' => by omega)]

theorem putE_comm {m : Mem} {k k' : Nat} {e e' : Option Ent} (h : ∀ a b, e = some a → e' = some b → k ≠ k') : putE (putE m k e) k' e' = putE (putE m k' e') k e := by
  cases e with
  | none => rfl
  | some a =>
    cases e' with
    | none => rfl
    | some b =>
      have := h a b rfl rfl
      simp only [putE, Mem.set, List.set_comm _ _ this]

/-- **Swap.** -/
theorem swap {P : Program} {T : Tab} (hT : TabOk P T) {orc : Orc} {mx : List Nat} {ops : List Oper} {base x i : Nat} {ox oi : Oper} (hx : ops[x]? = some ox) (hi : ops[i]? = some oi) (hne : x ≠ i) (hf : free T ops mx x i ox oi = true) {st s1 s2 : St}
    (h1 : evOp T orc (some mx) ops base x st = some s1) (h2 : evOp T orc (some mx) ops base i s1 = some s2) : ∃ s, evOp T orc (some mx) ops base i st = some s ∧ evOp T orc (some mx) ops base x s = some s2 := by
  obtain ⟨f1, f2, f3, f4⟩ := free_spec hf
  rw [evOp_step hx] at h1
  rw [evOp_step hi] at h2
  obtain ⟨⟨a, m1⟩, e1, rfl⟩ := Option.map_eq_some_iff.1 h1
  obtain ⟨⟨b, m2⟩, e2, rfl⟩ := Option.map_eq_some_iff.1 h2
  simp only at e1 e2
  rw [step_put f2] at e2
  have fin : ∀ m', step T orc mx i ops base oi (base + rank ops i) st.tmps st.mem = some (b, m') → step T orc mx x ops base ox (base + rank ops x) st.tmps m' = some (a, m2) →
      ∃ s, evOp T orc (some mx) ops base i st = some s ∧ evOp T orc (some mx) ops base x s = some { tmps := putT (putT st.tmps ox.dst a) oi.dst b, mem := m2 } := by
    intro m' q1 q2
    refine ⟨{ tmps := putT st.tmps oi.dst b, mem := m' }, by rw [evOp_step hi, q1]; rfl, ?_⟩
    rw [evOp_step hx]
    simp only
    rw [step_put f4, q2]
    simp only [Option.map_some]
    rw [putT_comm st.tmps a b f3]
  simp only [Bool.or_eq_true, Bool.and_eq_true] at f1
  rcases f1 with (((hp | hp) | ⟨r1, r2⟩) | ⟨hlc, hmx, hmi⟩) | ⟨hlc, hmx, hmi⟩
  · obtain ⟨r, hr⟩ := step_P (orc := orc) (mx := mx) (n := x) (ops := ops) (k := base + rank ops x) (base := base) (ts := st.tmps) hp
    rw [hr] at e1
    obtain ⟨a', hra, q1⟩ := Option.map_eq_some_iff.1 e1
    simp only [Prod.mk.injEq] at q1
    obtain ⟨rfl, rfl⟩ := q1
    exact fin m2 e2 (by rw [hr, hra]; rfl)
  · obtain ⟨r, hr⟩ := step_P (orc := orc) (mx := mx) (n := i) (ops := ops) (k := base + rank ops i) (base := base) (ts := st.tmps) hp
    rw [hr] at e2
    obtain ⟨b', hrb, q2⟩ := Option.map_eq_some_iff.1 e2
    simp only [Prod.mk.injEq] at q2
    obtain ⟨rfl, rfl⟩ := q2
    exact fin st.mem (by rw [hr, hrb]; rfl) e1
  · obtain ⟨rx, hlx, hrx⟩ := step_R hT (orc := orc) (mx := mx) (n := x) (ops := ops) (k := base + rank ops x) (base := base) (ts := st.tmps) r1 st.mem
    obtain ⟨ri, hli, hri⟩ := step_R hT (orc := orc) (mx := mx) (n := i) (ops := ops) (k := base + rank ops i) (base := base) (ts := st.tmps) r2 st.mem
    rw [hrx st.mem ⟨fun _ _ => rfl, rfl, rfl⟩] at e1
    obtain ⟨⟨a', ea⟩, hra, q1⟩ := Option.map_eq_some_iff.1 e1
    simp only [Prod.mk.injEq] at q1
    obtain ⟨rfl, rfl⟩ := q1
    rw [hri _ (agree_put (by omega) ea)] at e2
    obtain ⟨⟨b', eb⟩, hrb, q2⟩ := Option.map_eq_some_iff.1 e2
    simp only [Prod.mk.injEq] at q2
    obtain ⟨rfl, rfl⟩ := q2
    refine fin (putE st.mem (base + rank ops i) eb) (by rw [hri st.mem ⟨fun _ _ => rfl, rfl, rfl⟩, hrb]; rfl) ?_
    rw [hrx _ (agree_put (by omega) eb), hra]
    simp only [Option.map_some, Option.some.injEq, Prod.mk.injEq, true_and]
    refine (putE_comm fun p q hp hq => ?_).symm
    subst hp hq
    have l1 := hlx _ _ hra
    have l2 := hli _ _ hrb
    rcases Nat.lt_or_gt_of_ne hne with hlt | hlt
    · have := rank_lt hx l1 hlt; omega
    · have := rank_lt hi l2 hlt; omega
  · rcases hlc with ⟨ql, qc⟩ | ⟨qc, ql⟩
    · obtain ⟨rfl, w⟩ := step_Ld ql hmx e1
      exact fin m2 e2 (w m2 (step_Cv qc hmi (by omega) e2).1)
    · obtain ⟨rfl, w⟩ := step_Ld ql hmi e2
      exact fin st.mem (w st.mem (step_Cv qc hmx (by omega) e1).2) e1
  · rcases hlc with ⟨ql, qc⟩ | ⟨qc, ql⟩
    · obtain ⟨rfl, w⟩ := step_LdS ql hmx e1
      obtain ⟨g1, g2⟩ := step_St qc hmi e2
      exact fin m2 e2 (w m2 g1 g2)
    · obtain ⟨rfl, w⟩ := step_LdS ql hmi e2
      obtain ⟨g1, g2⟩ := step_St qc hmx e1
      exact fin st.mem (w st.mem g1.symm g2.symm) e1

theorem evOps_append {T : Tab} {orc : Orc} {d : Option (List Nat)} {ops : List Oper} {base : Nat} : ∀ (l r : List Nat) (st : St), evOps T orc d ops base (l ++ r) st = (evOps T orc d ops base l st).bind (evOps T orc d ops base r)
  | [], r, st => rfl
  | i :: l, r, st => by
    simp only [List.cons_append, evOps]
    cases evOp T orc d ops base i st with
    | none => rfl
    | some s => exact evOps_append l r s

/-- one that is free of all ahead of it may go first -/
theorem to_front {P : Program} {T : Tab} (hT : TabOk P T) {orc : Orc} {mx : List Nat} {ops : List Oper} {base i : Nat} {oi : Oper} (hi : ops[i]? = some oi) : ∀ (pre : List Nat) (st s2 : St),
    (∀ x ∈ pre, x ≠ i ∧ ∃ ox, ops[x]? = some ox ∧ free T ops mx x i ox oi = true) → evOps T orc (some mx) ops base (pre ++ [i]) st = some s2 →
      ∃ s, evOp T orc (some mx) ops base i st = some s ∧ evOps T orc (some mx) ops base pre s = some s2
  | [], st, s2, _, h => by
    simp only [List.nil_append, evOps] at h
    split at h
    · rename_i s hs
      exact ⟨s, hs, h⟩
    · cases h
  | x :: pre, st, s2, hp, h => by
    simp only [List.cons_append, evOps] at h
    split at h
    · rename_i s1 h1
      obtain ⟨s, q1, q2⟩ := to_front hT hi pre s1 s2 (fun y hy => hp y (by simp [hy])) h
      obtain ⟨hne, ox, hox, hfr⟩ := hp x (by simp)
      obtain ⟨s', q3, q4⟩ := swap hT hox hi hne hfr h1 q1
      refine ⟨s', q3, ?_⟩
      simp only [evOps, q4]
      exact q2
    · cases h

end Go.Eng
end

/- Regions that draw their order: every order comes to the same. -/
section
namespace Go.Eng
open Go Go.RowKit
variable [Inhabited Pkg]
set_option linter.unusedSectionVars false

/-! ### the bits -/

theorem fold_bits {p : Edge → Bool} {g : Edge → Nat} {x : Nat} : ∀ (l : List Edge) (s : Nat), (l.foldl (fun s e => if p e then s ||| 2 ^ e.on ||| g e else s) s).testBit x = true →
    s.testBit x = true ∨ ∃ e ∈ l, p e = true ∧ (x = e.on ∨ (g e).testBit x = true)
  | [], s, h => .inl h
  | e :: r, s, h => by
    simp only [List.foldl_cons] at h
    rcases fold_bits r _ h with h1 | ⟨e', he', h2⟩
    · split at h1
      · rename_i hp
        simp only [Nat.testBit_or, Bool.or_eq_true, Nat.testBit_two_pow, decide_eq_true_eq] at h1
        rcases h1 with (h1 | h1) | h1
        · exact .inl h1
        · exact .inr ⟨e, by simp, hp, .inl h1.symm⟩
        · exact .inr ⟨e, by simp, hp, .inr h1⟩
      · exact .inl h1
    · exact .inr ⟨e', by simp [he'], h2⟩

theorem bitsOf_spec {acc : List Nat} {o : Oper} {x : Nat} (h : (bitsOf acc o).testBit x = true) : ∃ e ∈ o.after, Region.binds .any e = true ∧ (x = e.on ∨ (acc.getD e.on 0).testBit x = true) := by
  unfold bitsOf at h
  rcases fold_bits (p := fun e => Region.binds .any e) (g := fun e => acc.getD e.on 0) o.after.toList 0 h with h | ⟨e, he, h1, h2⟩
  · simp at h
  · exact ⟨e, by simpa using he, h1, h2⟩

theorem before_from : ∀ (l : List Oper) (acc : List Nat),
    (l.foldl (fun acc o => acc ++ [bitsOf acc o]) acc).take acc.length = acc ∧
    ∀ j o, l[j]? = some o → (l.foldl (fun acc o => acc ++ [bitsOf acc o]) acc)[acc.length + j]? = some (bitsOf ((l.foldl (fun acc o => acc ++ [bitsOf acc o]) acc).take (acc.length + j)) o)
  | [], acc => ⟨by simp, fun j o h => by simp at h⟩
  | o0 :: r, acc => by
    obtain ⟨h1, h2⟩ := before_from r (acc ++ [bitsOf acc o0])
    simp only [List.foldl_cons]
    generalize r.foldl (fun acc o => acc ++ [bitsOf acc o]) (acc ++ [bitsOf acc o0]) = b at h1 h2 ⊢
    simp only [List.length_append, List.length_cons, List.length_nil, Nat.zero_add] at h1 h2
    have h3 : b.take acc.length = acc := by
      have := congrArg (List.take acc.length) h1
      rw [List.take_take, Nat.min_eq_left (by omega)] at this
      simpa using this
    refine ⟨h3, fun j o hj => ?_⟩
    cases j with
    | zero =>
      simp only [List.getElem?_cons_zero, Option.some.injEq] at hj
      subst hj
      simp only [Nat.add_zero, h3]
      have := congrArg (·[acc.length]?) h1
      simp only [List.getElem?_take, Nat.lt_add_one, if_true] at this
      simpa using this
    | succ j =>
      simp only [List.getElem?_cons_succ] at hj
      have := h2 j o hj
      have e : acc.length + (j + 1) = acc.length + 1 + j := by omega
      rw [e]; exact this

theorem before_spec {ops : List Oper} {j x : Nat} (h : ((before ops).getD j 0).testBit x = true) {o : Oper} (ho : ops[j]? = some o) : ∃ e ∈ o.after, Region.binds .any e = true ∧ (x = e.on ∨ ((before ops).getD e.on 0).testBit x = true) := by
  obtain ⟨_, h2⟩ := before_from ops []
  have := h2 j o ho
  simp only [List.length_nil, Nat.zero_add] at this
  change (before ops)[j]? = some (bitsOf ((before ops).take j) o) at this
  rw [List.getD_eq_getElem?_getD, this] at h
  obtain ⟨e, he, h3, h4⟩ := bitsOf_spec h
  refine ⟨e, he, h3, h4.imp id fun h4 => ?_⟩
  rw [List.getD_eq_getElem?_getD, List.getElem?_take] at h4
  split at h4
  · rw [List.getD_eq_getElem?_getD]; exact h4
  · simp at h4

theorem backOk_spec : ∀ (l : List Oper) (j0 j : Nat) (o : Oper), backOk j0 l = true → l[j]? = some o → ∀ e ∈ o.after, e.on < j0 + j
  | [], _, _, _, _, h => by simp at h
  | o0 :: r, j0, j, o, hb, h => by
    simp only [backOk, Bool.and_eq_true] at hb
    cases j with
    | zero =>
      simp only [List.getElem?_cons_zero, Option.some.injEq] at h
      subst h
      intro e he
      have := List.all_eq_true.1 hb.1 e (by simpa using he)
      simpa using this
    | succ j =>
      intro e he
      have := backOk_spec r (j0 + 1) j o hb.2 (by simpa using h) e he
      omega

/-- there is a rank that the edges heed -/
theorem modeOk_spec {ops : List Oper} {md : Region.Mode} (h : modeOk ops md = true) : ∃ rk : Nat → Nat, ∀ (j : Nat) (o : Oper), ops[j]? = some o → ∀ e ∈ o.after, Region.binds md e = true → e.on < ops.length ∧ rk e.on < rk j := by
  unfold modeOk at h
  rw [Bool.or_eq_true] at h
  rcases h with h | h
  · refine ⟨id, fun j o ho e he _ => ?_⟩
    have h1 := backOk_spec ops 0 j o h ho e he
    have h2 := (List.getElem?_eq_some_iff.1 ho).1
    simp only [id]
    omega
  · refine ⟨fun x => (topo md ops ops.length []).idxOf x, fun j o ho e he hb => ?_⟩
    have hj := (List.getElem?_eq_some_iff.1 ho).1
    have h1 := List.all_eq_true.1 h j (by simpa using hj)
    simp only [ho] at h1
    have h2 := List.all_eq_true.1 h1 e (by simpa using he)
    simp only [hb, Bool.not_true, Bool.false_or, Bool.and_eq_true, decide_eq_true_eq] at h2
    exact h2

theorem binds_any {e : Edge} (h : Region.binds .any e = true) (md : Region.Mode) : Region.binds md e = true := by
  unfold Region.binds at h ⊢
  cases hg : e.ground <;> simp_all

/-! ### what is left -/

def rem (n : Nat) (listed : Array Bool) : List Nat := (List.range n).filter fun i => !listed.getD i true

theorem mem_rem {n i : Nat} {listed : Array Bool} : i ∈ rem n listed ↔ i < n ∧ listed.getD i true = false := by
  unfold rem
  rw [List.mem_filter, List.mem_range, Bool.not_eq_true']

theorem rem_sorted (n : Nat) (listed : Array Bool) : (rem n listed).Pairwise (· < ·) := List.Pairwise.filter _ List.pairwise_lt_range

theorem rem_set {n i : Nat} {listed : Array Bool} (hs : listed.size = n) (hi : i < n) {pre post : List Nat} (h : rem n listed = pre ++ i :: post) : rem n (listed.setIfInBounds i true) = pre ++ post := by
  have hp := rem_sorted n listed
  rw [h] at hp
  have hnd : ∀ x ∈ pre ++ post, x ≠ i := by
    intro x hx
    rw [List.pairwise_append] at hp
    obtain ⟨_, h2, h3⟩ := hp
    rcases List.mem_append.1 hx with hx | hx
    · have := h3 x hx i (by simp); omega
    · have := (List.pairwise_cons.1 h2).1 x hx; omega
  have e : rem n (listed.setIfInBounds i true) = (rem n listed).filter (fun x => decide (x ≠ i)) := by
    unfold rem
    rw [List.filter_filter]
    refine List.filter_congr fun x hx => ?_
    by_cases hxi : x = i
    · subst hxi
      simp [hs, hi]
    · rw [getD_set_ne true (Ne.symm hxi)]
      simp [hxi]
  rw [e, h, List.filter_append, List.filter_cons]
  simp only [ne_eq, not_true_eq_false, decide_false, Bool.false_eq_true, if_false]
  rw [← List.filter_append, List.filter_eq_self]
  intro x hx
  simpa using hnd x hx

def Closed (ops : List Oper) (listed : Array Bool) : Prop := ∀ j x, listed.getD j false = true → ((before ops).getD j 0).testBit x = true → listed.getD x false = true

theorem draw_any {ds : List Deferred} {P : Program} {T : Tab} {orc : Orc} (hT : TabOk P T) (hO : ∀ f, COk P f (orc f)) {ops : Array Oper} (hd : drawOk T ops.toList = true) {base : Nat} {st1 : St} {md : Region.Mode} {mx : List Nat} (hmx : ∀ k, (mixed ops.toList).contains k = true → mx.contains k = true) (hmt : ∀ k, mx.contains (4000000 + k) = true → (mixed ops.toList).contains (4000000 + k) = true) : ∀ (fuel : Nat) (listed : Array Bool) (st : St) (c : Cx) (a : Act),
    listed.size = ops.size → Closed ops.toList listed → evOps T orc (some mx) ops.toList base (rem ops.size listed) st = some st1 → Sim ds c st a → Ahead ops.toList base (rem ops.size listed) st.mem → (rem ops.size listed).length ≤ fuel →
    ∀ {ro : Option Nat} {n : Nat} {Q : Exit → Act → World → Prop}, (∀ c' a', Far c c' → Sim ds c' st1 a' → Q .normal a' c'.w) → wpAnyIn (wF ro) n P md ops Q fuel listed a c.w := by
  unfold drawOk at hd
  simp only [Bool.and_eq_true] at hd
  obtain ⟨⟨hm1, hm2, hm3⟩, hpairs⟩ := hd
  have hmode : modeOk ops.toList md = true := by
    cases md
    · exact hm2
    · exact hm3
    · exact hm1
  obtain ⟨rk, hrk⟩ := modeOk_spec hmode
  have hready : ∀ {listed : Array Bool} {j : Nat}, j ∈ Region.ready md ops listed → j ∈ rem ops.size listed ∧ ∃ o, ops.toList[j]? = some o ∧ ∀ e ∈ o.after, Region.binds md e = true → listed.getD e.on false = true := by
    intro listed j hj
    obtain ⟨h0, o, ho, h1⟩ := mem_ready.1 hj
    exact ⟨mem_rem.2 ⟨(Array.getElem?_eq_some_iff.1 ho).1, h0⟩, o, by rw [Array.getElem?_toList]; exact ho, h1⟩
  intro fuel
  induction fuel with
  | zero =>
    intro listed st c a hs hc hev hsim ha hlen ro n Q hQ
    have hr : rem ops.size listed = [] := List.length_eq_zero_iff.1 (by omega)
    rw [hr] at hev
    simp only [evOps, Option.some.injEq] at hev
    subst hev
    refine ⟨List.eq_nil_iff_forall_not_mem.2 fun j hj => ?_, hQ c a (.refl _) hsim⟩
    have := (hready hj).1
    rw [hr] at this
    simp at this
  | succ fuel ih =>
    intro listed st c a hs hc hev hsim ha hlen ro n Q hQ
    refine ⟨fun hnil => ?_, fun i hi => ?_⟩
    · -- nothing is left
      cases hr : rem ops.size listed with
      | nil =>
        rw [hr] at hev
        simp only [evOps, Option.some.injEq] at hev
        subst hev
        exact hQ c a (.refl _) hsim
      | cons j r =>
        exfalso
        have none : ∀ n j, rk j = n → j ∉ rem ops.size listed := by
          intro n
          induction n using Nat.strongRecOn with
          | ind n ihn =>
            intro j hjn hj
            obtain ⟨hjl, hj0⟩ := mem_rem.1 hj
            have ho : ops[j]? = some ops[j] := by simp [hjl]
            have : j ∈ Region.ready md ops listed := by
              refine mem_ready.2 ⟨hj0, ops[j], ho, fun e he hb => ?_⟩
              obtain ⟨h1, h2⟩ := hrk j ops[j] (by rw [Array.getElem?_toList]; exact ho) e he hb
              have hnot := ihn (rk e.on) (by omega) e.on rfl
              have hlt2 : e.on < listed.size := by simp only [Array.length_toList] at h1; omega
              have h3 : listed.getD e.on true ≠ false := fun h => hnot (mem_rem.2 ⟨by omega, h⟩)
              simp only [Array.getD_eq_getD_getElem?, Array.getElem?_eq_getElem hlt2, Option.getD_some] at h3 ⊢
              simpa using h3
            rw [hnil] at this
            simp at this
        exact none _ j rfl (by rw [hr]; simp)
    · obtain ⟨him, oi, hoi, hedges⟩ := hready hi
      obtain ⟨hil, hi0⟩ := mem_rem.1 him
      obtain ⟨pre, post, hrem⟩ := List.append_of_mem him
      -- what must have gone before it has gone
      have hbits : ∀ x, ((before ops.toList).getD i 0).testBit x = true → listed.getD x false = true := by
        intro x hx
        obtain ⟨e, he, h1, h2⟩ := before_spec hx hoi
        have hl := hedges e he (binds_any h1 md)
        rcases h2 with rfl | h2
        · exact hl
        · exact hc e.on x hl h2
      have hpre : ∀ x ∈ pre, x ≠ i ∧ ∃ ox, ops.toList[x]? = some ox ∧ free T ops.toList mx x i ox oi = true := by
        intro x hx
        have hp := rem_sorted ops.size listed
        rw [hrem, List.pairwise_append] at hp
        have hlt : x < i := hp.2.2 x hx i (by simp)
        have hxm : x ∈ rem ops.size listed := by rw [hrem]; simp [hx]
        obtain ⟨hxl, hx0⟩ := mem_rem.1 hxm
        have hxo : ops.toList[x]? = some ops.toList[x] := by simp [hxl]
        refine ⟨by omega, _, hxo, ?_⟩
        have h1 := List.all_eq_true.1 hpairs i (by simpa using hil)
        have h2 := List.all_eq_true.1 h1 x (by simpa using hlt)
        simp only [hxo, hoi, Bool.or_eq_true] at h2
        rcases h2 with h2 | h2
        · exact free_mono hmx hmt h2
        · exfalso
          have hl := hbits x h2
          have hlt2 : x < listed.size := by omega
          simp only [Array.getD_eq_getD_getElem?, Array.getElem?_eq_getElem hlt2, Option.getD_some] at hl hx0
          rw [hl] at hx0
          cases hx0
      rw [hrem] at hev
      have hsplit : pre ++ i :: post = (pre ++ [i]) ++ post := by simp
      rw [hsplit, evOps_append] at hev
      cases hmid : evOps T orc (some mx) ops.toList base (pre ++ [i]) st with
      | none => rw [hmid] at hev; cases hev
      | some s2 =>
        rw [hmid] at hev
        simp only [Option.bind_some] at hev
        obtain ⟨s, q1, q2⟩ := to_front hT hoi pre st s2 hpre hmid
        have hev' : evOps T orc (some mx) ops.toList base (pre ++ post) s = some st1 := by
          rw [evOps_append, q2]; exact hev
        refine evOp_ok hT hO q1 hsim (fun o ho hl => ha i him o ho hl) fun c' a' x hs' => ?_
        have hrem' := rem_set hs hil hrem
        refine ih (listed.setIfInBounds i true) s c' a' (by simpa using hs) ?_ (by rw [hrem']; exact hev') hs' ?_ ?_ fun c2 a2 x2 hs2 => hQ c2 a2 (x.far.trans x2) hs2
        · intro j y hj hy
          by_cases hji : j = i
          · subst hji; exact getD_set_true (hbits y hy)
          · rw [getD_set_ne false (Ne.symm hji)] at hj
            exact getD_set_true (hc j y hj hy)
        · rw [hrem']
          intro j hj o ho hl
          have hji : j ≠ i := by
            intro e
            have hp := rem_sorted ops.size listed
            rw [hrem, List.pairwise_append] at hp
            obtain ⟨_, h2, h3⟩ := hp
            rcases List.mem_append.1 hj with hj | hj
            · have := h3 j hj i (by simp); omega
            · have := (List.pairwise_cons.1 h2).1 j hj; omega
          have hjm : j ∈ rem ops.size listed := by
            rw [hrem]
            rcases List.mem_append.1 hj with hj | hj <;> simp [hj]
          refine (evOp_free q1).2.2 _ (fun o' ho' hl' e => ?_) (ha j hjm o ho hl)
          rcases Nat.lt_or_gt_of_ne hji with hlt | hlt
          · have := rank_lt ho hl hlt; omega
          · have := rank_lt ho' hl' hlt; omega
        · rw [hrem']
          rw [hrem] at hlen
          simp only [List.length_append, List.length_cons] at hlen ⊢
          omega

/-- the world drawn on -/
def Cx.drawn (c : Cx) : Cx := { c with w := { c.w with drawn := c.w.drawn + 1 } }

theorem draw_ok (P : Program) {T : Tab} (hT : TabOk P T) : DrawOK P T := by
  intro ds orc hO rb id ops st st1 c a hd hev hs ro n Q hQ
  have hdr : Drawn c c.drawn := ⟨rfl, rfl, rfl, rfl, rfl, rfl, rfl, rfl, rfl, Nat.le_refl _⟩
  have hs' : Sim ds c.drawn (st.more (rank ops.toList ops.toList.length)) a := by
    have h1 := hs.more (rank ops.toList ops.toList.length)
    have h2 := hdr.mem h1.mem
    exact ⟨⟨h2.wf, hs.mem.ep, h2.ln, h2.l, h2.gn, h2.g⟩, hdr.ext.all2 h1.tmps, h1.defers⟩
  have hrem0 : rem ops.size (Array.replicate ops.size false) = List.range ops.size := by
    unfold rem
    rw [List.filter_eq_self]
    intro i hi
    simp [List.mem_range.1 hi]
  have key : ∀ md t, wpOpsIn (wF ro) n P ops Q (Region.linearise md ops t) a { c.w with drawn := c.w.drawn + 1 } := by
    intro md t
    refine wpAnyIn_sound ops.size t (Array.replicate ops.size false) a _ ?_
    refine draw_any hT hO hd (mx := mxOf rb ops.toList) (fun k hk => by unfold mxOf; split <;> simp_all) (hmt := fun k hk => by
      unfold mxOf at hk
      split at hk
      · simp only [List.contains_cons, Bool.or_eq_true, beq_iff_eq] at hk
        rcases hk with hk | hk
        · omega
        · exact hk
      · exact hk) (base := st.mem.L.length) (st1 := st1) ops.size _ (st.more (rank ops.toList ops.toList.length)) c.drawn a (by simp) ?_ (by rw [hrem0]; exact hev) hs' (ahead_more _ _ st) (by rw [hrem0]; simp) fun c' a' x hs2 => hQ c' a' (hdr.ext.far.trans x) hs2
    intro j x hj _
    exfalso
    rw [Array.getD_eq_getD_getElem?, Array.getElem?_replicate] at hj
    split at hj <;> cases hj
  refine wpIn_region_draw fun t => ?_
  unfold Region.schedule
  split
  · exact key _ _
  · exact key _ _

end Go.Eng
end
