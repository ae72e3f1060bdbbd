/- What is kept, handed on, given away. -/
import Derived.Test.YtkconbpjimjbnaaEngD
namespace Go.Eng
open Go Go.RowKit

def All2 {α β : Type} (R : α → β → Prop) : List α → List β → Prop
  | [], [] => True
  | a :: r, b :: s => R a b ∧ All2 R r s
  | _, _ => False

theorem All2.length {α β : Type} {R : α → β → Prop} : ∀ {as : List α} {bs : List β}, All2 R as bs → as.length = bs.length
  | [], [], _ => rfl
  | a :: r, b :: s, h => by simp [All2.length h.2]
  | [], _ :: _, h => h.elim
  | _ :: _, [], h => h.elim

theorem All2.get {α β : Type} {R : α → β → Prop} : ∀ {as : List α} {bs : List β}, All2 R as bs → ∀ (j : Nat) (a : α), as[j]? = some a → ∃ b, bs[j]? = some b ∧ R a b
  | [], [], _, j, a, h => by simp at h
  | x :: r, b :: s, h, 0, a, ha => by simp at ha; subst ha; exact ⟨b, rfl, h.1⟩
  | x :: r, b :: s, h, j + 1, a, ha => by simpa using All2.get h.2 j a (by simpa using ha)
  | [], _ :: _, h, _, _, _ => h.elim
  | _ :: _, [], h, _, _, _ => h.elim

theorem All2.of {α β : Type} {R : α → β → Prop} : ∀ {as : List α} {bs : List β}, as.length = bs.length → (∀ (j : Nat) (a : α), as[j]? = some a → ∀ b, bs[j]? = some b → R a b) → All2 R as bs
  | [], [], _, _ => trivial
  | x :: r, b :: s, h, k => ⟨k 0 x rfl b rfl, All2.of (by simpa using h) fun j a ha b hb => k (j + 1) a (by simpa using ha) b (by simpa using hb)⟩
  | [], _ :: _, h, _ => by simp at h
  | _ :: _, [], h, _ => by simp at h

theorem All2.mono {α β : Type} {R S : α → β → Prop} (hm : ∀ a b, R a b → S a b) : ∀ {as : List α} {bs : List β}, All2 R as bs → All2 S as bs
  | [], [], _ => trivial
  | _ :: _, _ :: _, h => ⟨hm _ _ h.1, All2.mono hm h.2⟩
  | [], _ :: _, h => h.elim
  | _ :: _, [], h => h.elim

theorem All2.append {α β : Type} {R : α → β → Prop} : ∀ {as : List α} {bs : List β} {cs : List α} {ds : List β}, All2 R as bs → All2 R cs ds → All2 R (as ++ cs) (bs ++ ds)
  | [], [], _, _, _, h => h
  | _ :: _, _ :: _, _, _, h, k => ⟨h.1, All2.append h.2 k⟩
  | [], _ :: _, _, _, h, _ => h.elim
  | _ :: _, [], _, _, h, _ => h.elim

theorem All2.take {α β : Type} {R : α → β → Prop} : ∀ {as : List α} {bs : List β} (n : Nat), All2 R as bs → All2 R (as.take n) (bs.take n)
  | [], [], n, _ => by simp [All2]
  | _ :: _, _ :: _, 0, _ => trivial
  | _ :: _, _ :: _, n + 1, h => ⟨h.1, All2.take n h.2⟩
  | [], _ :: _, _, h => h.elim
  | _ :: _, [], _, h => h.elim

theorem All2.drop {α β : Type} {R : α → β → Prop} : ∀ {as : List α} {bs : List β} (n : Nat), All2 R as bs → All2 R (as.drop n) (bs.drop n)
  | [], [], n, _ => by simp [All2]
  | _ :: _, _ :: _, 0, h => h
  | _ :: _, _ :: _, n + 1, h => All2.drop n h.2
  | [], _ :: _, _, h => h.elim
  | _ :: _, [], _, h => h.elim

theorem All2.map {α β γ : Type} {R : α → γ → Prop} {S : β → γ → Prop} (f : α → β) (hm : ∀ a b, R a b → S (f a) b) : ∀ {as : List α} {bs : List γ}, All2 R as bs → All2 S (as.map f) bs
  | [], [], _ => trivial
  | _ :: _, _ :: _, h => ⟨hm _ _ h.1, All2.map f hm h.2⟩
  | [], _ :: _, h => h.elim
  | _ :: _, [], h => h.elim

theorem VL.all2 {c : Cx} {cs : List AV} {vs : Array Value} (hl : cs.length = vs.size) (h : ∀ (j : Nat) (a : AV), cs[j]? = some a → ∀ v, vs[j]? = some v → VL c a v) : All2 (VL c) cs vs.toList :=
  All2.of (by simpa using hl) fun j a ha v hv => h j a ha v (by simpa using hv)

theorem VL.all2' {c : Cx} {cs : List AV} {vs : Array Value} (h : All2 (VL c) cs vs.toList) : cs.length = vs.size ∧ ∀ (j : Nat) (a : AV), cs[j]? = some a → ∀ v, vs[j]? = some v → VL c a v :=
  ⟨by simpa using h.length, fun j a ha v hv => by
    obtain ⟨b, hb, hr⟩ := h.get j a ha
    have : vs.toList[j]? = some v := by simpa using hv
    rw [this] at hb; injection hb with hb; subst hb; exact hr⟩

theorem VL.aggL {c : Cx} {cs : List AV} {l : List Value} (h : All2 (VL c) cs l) : VL c (.agg cs) (.agg l.toArray) := by
  obtain ⟨h1, h2⟩ := VL.all2' (vs := l.toArray) (by simpa using h)
  exact .agg h1 h2

theorem VL.tupL {c : Cx} {cs : List AV} {l : List Value} (h : All2 (VL c) cs l) : VL c (.tup cs) (.tuple l.toArray) := by
  obtain ⟨h1, h2⟩ := VL.all2' (vs := l.toArray) (by simpa using h)
  exact .tup h1 h2


/-- a leaf is one cell -/
theorem VL.leaf {c : Cx} {a : AV} {v : Value} (h : VL c a v) (hl : a.leaf = true) : v.cells = #[v] ∧ v.oneCell' = true := by
  cases h with
  | dat hd => exact ⟨hd.cells, hd.oneCell⟩
  | sh _ _ hs => obtain ⟨ad, cap, ty, n, rfl, _⟩ := hs; exact ⟨rfl, rfl⟩
  | _ => first
    | exact ⟨rfl, rfl⟩
    | simp [AV.leaf] at hl

def valsOf (x : AV) (v : Value) : List Value :=
  match x with
  | .agg _ => v.cells.toList
  | _ => [v]

theorem VL.vals {c : Cx} {x : AV} {v : Value} (h : VL c x v) : All2 (VL c) x.cells (valsOf x v) := by
  cases x <;> first
    | exact ⟨h, trivial⟩
    | (cases h with | agg hl h => exact VL.all2 hl h)

theorem Ext.all2 {c c' : Cx} (x : Ext c c') {as : List AV} {vs : List Value} (h : All2 (VL c) as vs) : All2 (VL c') as vs := h.mono fun _ _ r => r.ext x

theorem all2_one {c : Cx} : ∀ {as : List AV} {vs : List Value}, All2 (VL c) as vs → as.all AV.leaf = true → ∀ v ∈ vs, v.cells = #[v] ∧ v.oneCell' = true
  | [], [], _, _ => by simp
  | a :: r, v :: s, h, hl => by
    simp only [List.all_cons, Bool.and_eq_true] at hl
    intro u hu
    rcases List.mem_cons.1 hu with rfl | hu
    · exact h.1.leaf hl.1
    · exact all2_one h.2 hl.2 u hu
  | [], _ :: _, h, _ => h.elim
  | _ :: _, [], h, _ => h.elim

/-- a step of ghosts, and what it makes of the evaluator's memory -/
structure GStep (c : Cx) (m m' : Mem) (c' : Cx) : Prop where
  g : Ghost c c'
  m : MemOk c' m'

theorem mapS_ok {α β : Type} {f : Mem → α → Option (β × Mem)} {P : Cx → α → Value → Prop} {R : Cx → β → Value → Prop}
    (hf : ∀ c m a b m' v, f m a = some (b, m') → MemOk c m → P c a v → ∃ c', Ghost c c' ∧ MemOk c' m' ∧ R c' b v)
    (hP : ∀ c c' a v, Ext c c' → P c a v → P c' a v) (hR : ∀ c c' b v, Ext c c' → R c b v → R c' b v) :
    ∀ (as : List α) (vs : List Value) (bs : List β) (c : Cx) (m m' : Mem), mapS f m as = some (bs, m') → MemOk c m → All2 (P c) as vs →
      ∃ c', Ghost c c' ∧ MemOk c' m' ∧ All2 (R c') bs vs
  | [], [], bs, c, m, m', h, hm, _ => by
    simp only [mapS, Option.some.injEq, Prod.mk.injEq] at h
    obtain ⟨rfl, rfl⟩ := h
    exact ⟨c, .refl _, hm, trivial⟩
  | a :: r, v :: s, bs, c, m, m', h, hm, hp => by
    simp only [mapS] at h
    split at h
    · rename_i b m1 h1
      split at h
      · rename_i bs1 m2 h2
        simp only [Option.some.injEq, Prod.mk.injEq] at h
        obtain ⟨rfl, rfl⟩ := h
        obtain ⟨c1, g1, k1, r1⟩ := hf c m a b m1 v h1 hm hp.1
        obtain ⟨c2, g2, k2, r2⟩ := mapS_ok hf hP hR r s bs1 c1 m1 m2 h2 k1 (hp.2.mono fun a v h => hP _ _ a v g1.ext h)
        exact ⟨c2, g1.trans g2, k2, hR _ _ _ _ g2.ext r1, r2⟩
      · cases h
    · cases h
  | [], _ :: _, _, _, _, _, _, _, h => h.elim
  | _ :: _, [], _, _, _, _, _, _, h => h.elim

theorem keep_ok {c : Cx} {m m' : Mem} {a b : AV} {v : Value} (hs : keep m a = some (b, m')) (h : MemOk c m) (hv : VL c a v) :
    ∃ c', Ghost c c' ∧ MemOk c' m' ∧ VL c' b v := by
  unfold keep at hs
  split at hs
  · split at hs
    · rename_i d m1 h1
      simp only [Option.some.injEq, Prod.mk.injEq] at hs
      obtain ⟨rfl, rfl⟩ := hs
      obtain ⟨c', g, k, r, _⟩ := snap_ok h1 h hv
      exact ⟨c', g, k, .dat r⟩
    · cases hs
  · simp only [Option.some.injEq, Prod.mk.injEq] at hs
    obtain ⟨rfl, rfl⟩ := hs
    exact ⟨c, .refl _, h, hv⟩

/-- what may go over to another call -/
def pclean : AV → Bool
  | .dat _ | .nilp | .nilfn | .nili | .err => true
  | .ptr (.glob _) _ => true
  | _ => false

def pclean1 : AV → Bool
  | .agg cs => cs.all pclean
  | .fn _ cs => cs.all pclean
  | a => pclean a

theorem res_glob {m : Mem} {r : Ref} {g : Nat} {c : Cx} {off : Nat} {v : Value} (h : MemOk c m) (hr : m.res r = .glob g) (hv : VL c (.ptr r off) v) : VL c (.ptr (.glob g) off) v := by
  cases r with
  | glob g' => simp only [Mem.res] at hr; injection hr with hr; subst hr; exact hv
  | loc i =>
    simp only [Mem.res] at hr
    split at hr
    · rename_i g' hi
      injection hr with hr
      subst hr
      obtain ⟨b, h1, h2⟩ := h.l _ _ hi
      cases hv with
      | ptrl hb =>
        have : some b = some _ := h1.symm.trans hb
        injection this with this
        subst this
        exact .ptrg h2
    · cases hr

theorem pass1_ok {c : Cx} {m m' : Mem} {a b : AV} {v : Value} (hs : pass1 m a = some (b, m')) (h : MemOk c m) (hv : VL c a v) :
    ∃ c', Ghost c c' ∧ MemOk c' m' ∧ (VL c' b v ∧ pclean b = true) ∧ (notGh a = true → (∀ g, Same c c' (.gobj g)) ∧ (∀ g j, Same c c' (.grow g j)) ∧ m'.G = m.G) := by
  unfold pass1 at hs
  split at hs
  case h_6 | h_7 =>
    split at hs
    · rename_i d m1 h1
      simp only [Option.some.injEq, Prod.mk.injEq] at hs
      obtain ⟨rfl, rfl⟩ := hs
      obtain ⟨c', g, k, r, z⟩ := snap_ok h1 h hv
      exact ⟨c', g, k, ⟨.dat r, rfl⟩, z⟩
    · cases hs
  case h_8 =>
    split at hs
    · rename_i g hg
      simp only [Option.some.injEq, Prod.mk.injEq] at hs
      obtain ⟨rfl, rfl⟩ := hs
      exact ⟨c, .refl _, h, ⟨res_glob h hg hv, rfl⟩, fun _ => ⟨fun _ => .refl _ _, fun _ _ => .refl _ _, rfl⟩⟩
    · cases hs
  case h_9 => cases hs
  all_goals
    simp only [Option.some.injEq, Prod.mk.injEq] at hs
    obtain ⟨rfl, rfl⟩ := hs
    exact ⟨c, .refl _, h, ⟨hv, rfl⟩, fun _ => ⟨fun _ => .refl _ _, fun _ _ => .refl _ _, rfl⟩⟩

theorem mapS_pass1 {c : Cx} {m m' : Mem} {as bs : List AV} {vs : List Value} (hs : mapS pass1 m as = some (bs, m')) (h : MemOk c m) (hv : All2 (VL c) as vs) :
    ∃ c', Ghost c c' ∧ MemOk c' m' ∧ All2 (fun a v => VL c' a v ∧ pclean a = true) bs vs :=
  mapS_ok (P := fun c a v => VL c a v) (R := fun c a v => VL c a v ∧ pclean a = true) (fun c m a b m' v h1 h2 h3 => by obtain ⟨c', g, k, r, _⟩ := pass1_ok h1 h2 h3; exact ⟨c', g, k, r⟩) (fun _ _ _ _ x h => h.ext x) (fun _ _ _ _ x h => ⟨h.1.ext x, h.2⟩) as vs bs c m m' hs h hv

end Go.Eng
