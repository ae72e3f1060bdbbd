/- What is given away: rows go into cells of everybody's objects; objects become everybody's. -/
import Derived.Test.YtkconbpjimjbnaaEngE
namespace Go.Eng
open Go Go.RowKit

structure Giv (c : Cx) (m : Mem) (c' : Cx) (m' : Mem) : Prop where
  gh : Ghost c c'
  ok : MemOk c' m'
  sg : ∀ g, Same c c' (.gobj g)
  sr : ∀ g j, Same c c' (.grow g j)
  G : ∀ (k : Nat) (e : Ent), m.G[k]? = some e → m'.G[k]? = some e

theorem Giv.trans {a b c : Cx} {m n o : Mem} (h : Giv a m b n) (k : Giv b n c o) : Giv a m c o :=
  ⟨h.gh.trans k.gh, k.ok, fun g => (h.sg g).trans (k.sg g), fun g j => (h.sr g j).trans (k.sr g j), fun i e hi => k.G i e (h.G i e hi)⟩

theorem pclean_gclean {a : AV} (h : pclean a = true) : gclean a = true := by
  cases a with
  | ptr r off => cases r <;> simp_all [pclean, gclean]
  | _ => simp_all [pclean, gclean]

theorem CL.of_vl {c : Cx} {g j : Nat} {a : AV} {v : Value} (h : VL c a v) (hc : pclean a = true) : CL c g j a v := by
  cases a <;> first
    | exact h
    | simp [pclean] at hc

theorem lpass_ok {c : Cx} {m m' : Mem} {a b : AV} {v : Value} {g j : Nat} (hs : lpass m a = some (b, m')) (h : MemOk c m) (hv : VL c a v) :
    ∃ c', Giv c m c' m' ∧ gclean b = true ∧ CL c' g j b v := by
  unfold lpass at hs
  split at hs
  · cases hs
  · rename_i hn
    obtain ⟨c', gg, k, r, z⟩ := pass1_ok hs h hv
    have hng : notGh a = true := by
      cases a <;> first
        | rfl
        | exact absurd rfl (hn _ _ _ _ _ _ _)
    obtain ⟨z1, z2, z3⟩ := z hng
    exact ⟨c', ⟨gg, k, z1, z2, fun i e hi => by rw [z3]; exact hi⟩, pclean_gclean r.2, .of_vl r.1 r.2⟩

/-- block b comes to another -/
def Cx.toWho (c : Cx) (b : Nat) (who : Who) : Cx := { c with own := fun x => if x = b then some who else c.own x }

theorem Cx.toWho_turn (c : Cx) (b : Nat) (who : Who) (ho : c.own b ≠ none) : Turn c (c.toWho b who) b :=
  ⟨rfl, fun _ _ => rfl, Nat.le_refl _, fun x hx => by simp [Cx.toWho, hx], ho, by simp [Cx.toWho], rfl, rfl, fun _ _ h => h, rfl⟩

theorem RowOk.toWho {c : Cx} {who who' : Who} {b cap sz : Nat} {xs : Row} {m : Mode} (h : RowOk c who b cap sz xs m) : RowOk (c.toWho b who') who' b cap sz xs m := by
  obtain ⟨⟨cur, ty, fz, h1, h2, h3, h4, h4'⟩, h5, h6, h7, h8, h9, h10⟩ := h
  exact ⟨⟨cur, ty, fz, h1, h2, h3, h4.ext (c.toWho_turn b who' (by rw [h8]; simp)).ext, h4'⟩, h5, h6, h7, by simp [Cx.toWho], h9, h10⟩

theorem RowOk.cap_le {c : Cx} {who : Who} {b cap cap' sz : Nat} {xs : Row} {m : Mode} (h : RowOk c who b cap sz xs m) (h1 : xs.length ≤ cap') (h2 : cap' ≤ maxLen)
    (h3 : ∀ ty n, c.w.shape? b = some (ty, n) → cap' * sz ≤ n) : RowOk c who b cap' sz xs m := by
  obtain ⟨⟨cur, ty, fz, k1, k2, k3, k4, k4'⟩, h5, h6, h7, h8, h9, h10⟩ := h
  exact ⟨⟨cur, ty, fz, k1, k2, h3 _ _ (shape_of k1), k4, k4'⟩, h1, h2, h7, h8, h9, h10⟩

theorem giveSh_ok {c : Cx} {m m' : Mem} {f : Bool} {i sz off len : Nat} {b : AV} {v : Value} {g j : Nat} (hs : giveSh m f i sz off len = some (b, m')) (h : MemOk c m) (hv : VL c (.sh f i sz off len) v) :
    ∃ c', Giv c m c' m' ∧ gclean b = true ∧ CL c' g j b v := by
  unfold giveSh at hs
  split at hs
  · rename_i md s xs hr
    split at hs
    · rename_i hcond
      obtain ⟨rfl, rfl, rfl, hmd, rfl⟩ := hcond
      simp only [Option.some.injEq, Prod.mk.injEq] at hs
      obtain ⟨rfl, rfl⟩ := hs
      obtain ⟨hi, b, cap, h1, h2, h3, h4, h5⟩ := sh_row h hv hr
      have h3' : RowOk c (.lent i) b cap s xs md := by
        cases md with
        | ro => exact absurd rfl hmd
        | own => exact h3
        | excl => exact h3
      have ho := h3'.own
      have t := c.toWho_turn b (.grow g j) (by rw [ho]; simp)
      obtain ⟨ad, cap', ty, n, rfl, q1, q2, q3, q4, q5, q6⟩ := h5
      have hrow : RowOk c (.lent i) b cap' s xs md := h3'.cap_le q2 q3 (fun ty' n' hn => by
        rw [q1] at hn
        simp only [Option.some.injEq, Prod.mk.injEq] at hn
        rw [← hn.2, ← Nat.zero_add cap']; exact q4)
      refine ⟨_, ⟨t.ghost, ?_, fun g' => t.same (by rw [ho]; simp), fun g' j' => t.same (by rw [ho]; simp), fun k e hk => hk⟩, rfl, b, cap', ?_, hrow.toWho⟩
      · exact h.setL hi t.ext (t.wf h.wf (MemOk.lt_own h.wf ho)) rfl rfl rfl (fun who hw => t.same (by rw [ho]; simpa using fun e => hw e.symm)) trivial
      · rcases q6 with rfl | ⟨_, _, q6, _⟩
        · simp
        · exact absurd rfl q6
    · exact lpass_ok hs h hv
  · cases hs

/-- what 'give' keeps to -/
def GivOk (f : Mem → Nat → Nat → AV → Option (AV × Mem)) : Prop :=
  ∀ (c : Cx) (m : Mem) (g j : Nat) (a b : AV) (m' : Mem) (v : Value), f m g j a = some (b, m') → MemOk c m → VL c a v → ∃ c', Giv c m c' m' ∧ gclean b = true ∧ CL c' g j b v

theorem giveL_ok {f : Mem → Nat → Nat → AV → Option (AV × Mem)} (hf : GivOk f) : ∀ (as : List AV) (vs : List Value) (bs : List AV) (c : Cx) (m m' : Mem) (g j : Nat),
    giveL f m g j as = some (bs, m') → MemOk c m → All2 (VL c) as vs →
      ∃ c', Giv c m c' m' ∧ bs.length = vs.length ∧ ∀ (k : Nat) (b : AV), bs[k]? = some b → gclean b = true ∧ ∃ v, vs[k]? = some v ∧ CL c' g (j + k) b v
  | [], [], bs, c, m, m', g, j, h, hm, _ => by
    simp only [giveL, Option.some.injEq, Prod.mk.injEq] at h
    obtain ⟨rfl, rfl⟩ := h
    exact ⟨c, ⟨.refl _, hm, fun _ => .refl _ _, fun _ _ => .refl _ _, fun _ _ h => h⟩, rfl, fun k b hb => by simp at hb⟩
  | a :: r, v :: s, bs, c, m, m', g, j, h, hm, hp => by
    simp only [giveL] at h
    split at h
    · rename_i b m1 h1
      split at h
      · rename_i bs1 m2 h2
        simp only [Option.some.injEq, Prod.mk.injEq] at h
        obtain ⟨rfl, rfl⟩ := h
        obtain ⟨c1, g1, k1, r1⟩ := hf c m g j a b m1 v h1 hm hp.1
        obtain ⟨c2, g2, k2, r2⟩ := giveL_ok hf r s bs1 c1 m1 m2 g (j + 1) h2 g1.ok (g1.gh.ext.all2 hp.2)
        refine ⟨c2, g1.trans g2, by simp [k2], fun k b' hb' => ?_⟩
        cases k with
        | zero =>
          simp only [List.getElem?_cons_zero, Option.some.injEq] at hb'
          subst hb'
          exact ⟨k1, v, rfl, r1.frame g2.gh.ext (g2.sr g j)⟩
        | succ k =>
          obtain ⟨q1, v', q2, q3⟩ := r2 k b' (by simpa using hb')
          refine ⟨q1, v', by simpa using q2, ?_⟩
          have e : j + 1 + k = j + (k + 1) := by omega
          rw [← e]; exact q3
      · cases h
    · cases h
  | [], _ :: _, _, _, _, _, _, _, _, _, h => h.elim
  | _ :: _, [], _, _, _, _, _, _, _, _, h => h.elim

theorem res_loc {m : Mem} {r : Ref} {i : Nat} (h : m.res r = .loc i) : r = .loc i := by
  cases r with
  | glob g => simp [Mem.res] at h
  | loc k =>
    simp only [Mem.res] at h
    split at h
    · cases h
    · exact h

theorem get_loc {m : Mem} {i : Nat} {e : Ent} (h : m.get (.loc i) = some e) : m.L[i]? = some (some e) := by
  simp only [Mem.get] at h
  split at h
  · rename_i o ho; rw [ho, h]
  · cases h

theorem app_get {α : Type} (l : List α) (a : α) (k : Nat) : (l ++ [a])[k]? = if k = l.length then some a else l[k]? := by
  rw [List.getElem?_append]
  split
  · rename_i h; rw [if_neg (by omega)]
  · rename_i h
    split
    · rename_i h2; subst h2; simp
    · rename_i h2
      rw [List.getElem?_eq_none (by simp; omega), List.getElem?_eq_none (by omega)]

theorem givePtr_ok {f : Mem → Nat → Nat → AV → Option (AV × Mem)} (hf : GivOk f) {c : Cx} {m m' : Mem} {r : Ref} {off : Nat} {b : AV} {v : Value} {g j : Nat} (hs : givePtr f m r off = some (b, m')) (h : MemOk c m) (hv : VL c (.ptr r off) v) :
    ∃ c', Giv c m c' m' ∧ pclean b = true ∧ VL c' b v := by
  unfold givePtr at hs
  split at hs
  · rename_i g' hg
    simp only [Option.some.injEq, Prod.mk.injEq] at hs
    obtain ⟨rfl, rfl⟩ := hs
    exact ⟨c, ⟨.refl _, h, fun _ => .refl _ _, fun _ _ => .refl _ _, fun _ _ h => h⟩, rfl, res_glob h hg hv⟩
  · rename_i i hr
    obtain rfl := res_loc hr
    split at hs
    · rename_i cs hi
      have hi := get_loc hi
      split at hs
      · rename_i ds m1 h1
        simp only [Option.some.injEq, Prod.mk.injEq] at hs
        obtain ⟨rfl, rfl⟩ := hs
        obtain ⟨b0, cur, ty, k1, k2, k3, k4, k5⟩ := h.l _ _ hi
        have hgn := h.gn m.G.length (Nat.le_refl _)
        have hilt := (List.getElem?_eq_some_iff.1 hi).1
        -- the object's block is everybody's
        let c1 : Cx := { c with own := fun x => if x = b0 then some (.gobj m.G.length) else c.own x, bg := fun x => if x = m.G.length then some b0 else c.bg x }
        have hbg1 : ∀ x, x ≠ m.G.length → c1.bg x = c.bg x := fun x hx => by simp [c1, hx]
        have t : Turn c c1 b0 := ⟨rfl, fun _ _ => rfl, Nat.le_refl _, fun x hx => by simp [c1, hx], by rw [k3]; simp, by simp [c1], rfl, rfl,
          fun x y hx => by rw [hbg1 x (fun e => by rw [e, hgn] at hx; cases hx)]; exact hx, rfl⟩
        have hwf : WF c1 := t.wf h.wf (MemOk.lt_own h.wf k3)
        have hbl1 : c1.bl = c.bl := rfl
        have hm1 : MemOk c1 { m with L := m.L.set i (some (.fwd m.G.length)), G := m.G ++ [.gone] } := by
          refine h.of t.ext hwf h.ep (fun k e hk => ?_) (fun k hk => ?_) (fun k e hk => ?_) (fun k hk => ?_)
          · simp only at hk
            rw [set_get] at hk
            split at hk
            · rename_i h2
              simp only [Option.some.injEq] at hk
              subst hk
              right
              obtain ⟨rfl, _⟩ := h2
              exact ⟨b0, k1, by simp [c1]⟩
            · rename_i h2
              exact .inl ⟨hk, t.same (by rw [k3]; simp; intro e; exact h2 ⟨e, hilt⟩)⟩
          · simp only [List.length_set] at hk
            rw [set_get] at hk
            split at hk
            · rename_i h2
              rcases hk with hk | hk
              · cases hk
              · omega
            · exact h.ln k hk
          · simp only at hk
            rw [app_get] at hk
            split at hk
            · rename_i hkl
              simp only [Option.some.injEq] at hk
              subst hk
              subst hkl
              exact .inr ⟨b0, by simp [c1], by simp [c1]⟩
            · exact .inl ⟨hk, t.same (by rw [k3]; simp), fun j => t.same (by rw [k3]; simp)⟩
          · simp only [List.length_append, List.length_cons, List.length_nil] at hk
            rw [hbg1 k (by omega)]
            exact h.gn k (by omega)
        have hcells : All2 (VL c1) cs cur.toList := by
          have := k5.ext t.ext
          refine All2.of (by simpa using this.1) fun j a ha v hv => ?_
          obtain ⟨v', q1, q2⟩ := this.2 j a ha
          rw [Array.getElem?_toList] at hv
          rw [q1] at hv
          injection hv with hv
          rw [← hv]; exact q2
        obtain ⟨c2, g2, q1, q2⟩ := giveL_ok hf cs cur.toList ds c1 _ m1 m.G.length 0 h1 hm1 hcells
        have hG : m1.G[m.G.length]? = some .gone := g2.G _ _ (by simp)
        have hb0 : c1.own b0 = some (.gobj m.G.length) := by simp [c1]
        obtain ⟨s1, s2, s3⟩ := g2.sg m.G.length b0 hb0
        have hbg2 : c2.bg m.G.length = some b0 := g2.gh.ext.bg _ _ (by simp [c1])
        refine ⟨c2, ⟨t.ghost.trans g2.gh, ?_, fun g' => (t.same (by rw [k3]; simp)).trans (g2.sg g'), fun g' j' => (t.same (by rw [k3]; simp)).trans (g2.sr g' j'), fun k e hk => ?_⟩, rfl, ?_⟩
        · -- the memory
          refine g2.ok.of (.refl _) g2.ok.wf g2.ok.ep (fun k e hk => .inl ⟨hk, .refl _ _⟩) (fun k hk => g2.ok.ln k hk) (fun k e hk => ?_) (fun k hk => by simp only [List.length_set] at hk; exact g2.ok.gn k hk)
          simp only at hk
          rw [set_get] at hk
          split at hk
          · rename_i h2
            obtain ⟨rfl, _⟩ := h2
            simp only [Option.some.injEq] at hk
            subst hk
            right
            refine ⟨b0, cur, ty, hbg2, s1.trans k2, s2, s3.trans k4, by simpa using q1, fun j a ha => ?_⟩
            obtain ⟨z1, v', z2, z3⟩ := q2 j a ha
            rw [Nat.zero_add] at z3
            exact ⟨z1, v', by simpa using z2, z3⟩
          · exact .inl ⟨hk, .refl _ _, fun _ => .refl _ _⟩
        · have hk' := (List.getElem?_eq_some_iff.1 hk).1
          rw [set_get, if_neg (fun e2 => by omega)]
          exact g2.G k e (by rw [app_get, if_neg (by omega)]; exact hk)
        · cases hv with
          | ptrl hb =>
            have : some b0 = some _ := k1.symm.trans hb
            injection this with this
            subst this
            exact .ptrg hbg2
      · cases hs
    · cases hs

theorem give_ok : ∀ n, GivOk (give n)
  | 0 => by
    intro c m g j a b m' v hs h hv
    unfold give at hs
    split at hs
    · exact giveSh_ok hs h hv
    · exact lpass_ok hs h hv
  | n + 1 => by
    intro c m g j a b m' v hs h hv
    unfold give at hs
    split at hs
    · exact giveSh_ok hs h hv
    · obtain ⟨c', q1, q2, q3⟩ := givePtr_ok (g := g) (j := j) (give_ok n) hs h hv
      exact ⟨c', q1, pclean_gclean q2, .of_vl q3 q2⟩
    · exact lpass_ok hs h hv

theorem pass_ok {c : Cx} {m m' : Mem} {a b : AV} {v : Value} (hs : pass m a = some (b, m')) (h : MemOk c m) (hv : VL c a v) :
    ∃ c', Ghost c c' ∧ MemOk c' m' ∧ (VL c' b v ∧ pclean1 b = true) := by
  unfold pass at hs
  split at hs
  · split at hs
    · rename_i cs ds m1 h1
      simp only [Option.some.injEq, Prod.mk.injEq] at hs
      obtain ⟨rfl, rfl⟩ := hs
      cases hv with
      | agg hl hh =>
        obtain ⟨c', g, k, r⟩ := mapS_pass1 h1 h (VL.all2 hl hh)
        refine ⟨c', g, k, ?_, ?_⟩
        · have := VL.aggL (r.mono fun a v h => h.1)
          simpa using this
        · simp only [pclean1, List.all_eq_true]
          intro x hx
          obtain ⟨j, hj⟩ := List.getElem?_of_mem hx
          obtain ⟨_, _, z⟩ := r.get j x hj
          exact z.2
    · cases hs
  · split at hs
    · rename_i cs ds m1 h1
      simp only [Option.some.injEq, Prod.mk.injEq] at hs
      obtain ⟨rfl, rfl⟩ := hs
      cases hv with
      | fn hl hh =>
        obtain ⟨c', g, k, r⟩ := mapS_pass1 h1 h (VL.all2 hl hh)
        refine ⟨c', g, k, ?_, ?_⟩
        · obtain ⟨z1, z2⟩ := VL.all2' (r.mono fun a v h => h.1)
          exact .fn z1 z2
        · simp only [pclean1, List.all_eq_true]
          intro x hx
          obtain ⟨j, hj⟩ := List.getElem?_of_mem hx
          obtain ⟨_, _, z⟩ := r.get j x hj
          exact z.2
    · cases hs
  · rename_i r off
    obtain ⟨c', q1, q2, q3⟩ := givePtr_ok (g := 0) (j := 0) (give_ok 2) (by simpa [give] using hs) h hv
    exact ⟨c', q1.gh, q1.ok, q3, by cases b <;> simp_all [pclean, pclean1]⟩
  · obtain ⟨c', g, k, r, _⟩ := pass1_ok hs h hv
    exact ⟨c', g, k, r.1, by cases b <;> simp_all [pclean, pclean1]⟩

theorem mapS_pass {c : Cx} {m m' : Mem} {as bs : List AV} {vs : List Value} (hs : mapS pass m as = some (bs, m')) (h : MemOk c m) (hv : All2 (VL c) as vs) :
    ∃ c', Ghost c c' ∧ MemOk c' m' ∧ All2 (fun a v => VL c' a v ∧ pclean1 a = true) bs vs :=
  mapS_ok (P := fun c a v => VL c a v) (R := fun c a v => VL c a v ∧ pclean1 a = true) (fun c m a b m' v h1 h2 h3 => pass_ok h1 h2 h3) (fun _ _ _ _ x h => h.ext x) (fun _ _ _ _ x h => ⟨h.1.ext x, h.2⟩) as vs bs c m m' hs h hv

end Go.Eng
