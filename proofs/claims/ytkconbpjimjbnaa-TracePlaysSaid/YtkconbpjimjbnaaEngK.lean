/- What is cut, counted, built. -/
import Derived.Test.YtkconbpjimjbnaaEngJ
namespace Go.Eng
open Go Go.RowKit

/-- an operand that may lack -/
def OptVL (c : Cx) : Option AV → Option Value → Prop
  | none, none => True
  | some a, some v => VL c a v
  | _, _ => False

theorem optInt_some {c : Cx} {d n : Int} {a : Option AV} {v : Option Value} (h : optInt d a = some n) (hv : OptVL c a v) : (a = none ∧ v = none ∧ n = d) ∨ ∃ k, v = some (.int k n) ∧ a.isSome = true := by
  unfold optInt at h
  split at h
  · injection h with h
    cases v with
    | none => exact .inl ⟨rfl, rfl, h.symm⟩
    | some v => exact hv.elim
  · injection h with h
    subst h
    cases v with
    | none => exact hv.elim
    | some v =>
      have hv' : VL c _ v := hv
      cases hv' with | dat hd => cases hd with | int => exact .inr ⟨_, rfl, rfl⟩
  · cases h

theorem sliceBound_ok {P : Program} {w : World} (k : IntKind) (n : Int) (y : Nat) (code : BoundsCode) (h0 : 0 ≤ n) (h1 : n ≤ y) : (Instr.sliceBound (.int k n) y code).run P w = .ok n.toNat w := by
  simp [Instr.sliceBound, asIntOf, h0, h1]

/-- the bounds of a slice expression with no third index -/
theorem bounds2_ok {P : Program} {c : Cx} {w : World} {lo hi : Option AV} {vl vh : Option Value} {l h : Int} (isS : Bool) (len cap : Nat) (hl : optInt 0 lo = some l) (hh : optInt len hi = some h)
    (v1 : OptVL c lo vl) (v2 : OptVL c hi vh) (h0 : 0 ≤ l) (h1 : l ≤ h) (h2 : h ≤ len) (h3 : len ≤ cap) :
    (Instr.sliceBounds isS len cap vl vh none).run P w = .ok (l.toNat, h.toNat, cap) w := by
  rcases optInt_some hh v2 with ⟨_, rfl, rfl⟩ | ⟨k, rfl, _⟩ <;> rcases optInt_some hl v1 with ⟨_, rfl, rfl⟩ | ⟨k', rfl, _⟩
  · simp [Instr.sliceBounds]
  · simp [Instr.sliceBounds, sliceBound_ok k' l len _ h0 h1]
  · simp [Instr.sliceBounds, sliceBound_ok k h cap _ (by omega) (by omega)]
  · simp [Instr.sliceBounds, sliceBound_ok k h cap _ (by omega) (by omega), sliceBound_ok k' l h.toNat _ h0 (by omega)]

theorem bounds3_ok {P : Program} {c : Cx} {w : World} {lo hi : Option AV} {vl vh : Option Value} {l h m : Int} {k : IntKind} (len cap : Nat) (hl : optInt 0 lo = some l) (hh : optInt len hi = some h)
    (v1 : OptVL c lo vl) (v2 : OptVL c hi vh) (h0 : 0 ≤ l) (h1 : l ≤ h) (h2 : h ≤ len) (h3 : len ≤ cap) (hm : m = h) (hs : hi.isSome = true) :
    (Instr.sliceBounds true len cap vl vh (some (.int k m))).run P w = .ok (l.toNat, h.toNat, h.toNat) w := by
  subst hm
  rcases optInt_some hh v2 with ⟨rfl, _, _⟩ | ⟨k2, rfl, _⟩
  · cases hs
  · rcases optInt_some hl v1 with ⟨_, rfl, rfl⟩ | ⟨k', rfl, _⟩
    · simp [Instr.sliceBounds, sliceBound_ok k m cap _ (by omega) (by omega), sliceBound_ok k2 m m.toNat _ (by omega) (by omega)]
    · simp [Instr.sliceBounds, sliceBound_ok k m cap _ (by omega) (by omega), sliceBound_ok k2 m m.toNat _ (by omega) (by omega), sliceBound_ok k' l m.toNat _ h0 (by omega)]

/-- a slice's value cut once more -/
def cutV (v : Value) (sz l h m : Nat) : Value :=
  match v with
  | .slice a _ _ => .slice (if m = l then a else a.map (·.add (l * sz))) (h - l) (m - l)
  | v => v

theorem SliceAt.cut {w : World} {f f' : Bool} {b sz off len : Nat} {v : Value} (hs : SliceAt w f b sz off len v) {l h m : Nat} (h0 : l ≤ h) (h1 : h ≤ len) (hm : ∃ a cap, v = .slice a len cap ∧ h ≤ m ∧ m ≤ cap)
    (hf : f' = true → m = h) : SliceAt w f' b sz (off + l) (h - l) (cutV v sz l h m) := by
  obtain ⟨ad, cap, ty, n, rfl, q1, q2, q3, q4, q5, q6⟩ := hs
  obtain ⟨a, cap', e, h2, h3⟩ := hm
  injection e with e1 e2 e3
  subst e1
  subst e3
  have hmul : (off + l + (m - l)) * sz ≤ (off + cap) * sz := Nat.mul_le_mul_right _ (by omega)
  by_cases hml : m = l
  · refine ⟨ad, m - l, ty, n, by simp [cutV, hml], q1, by omega, by omega, by omega, fun hft => by have := hf hft; omega, ?_⟩
    by_cases hl : l = 0
    · subst hl
      rcases q6 with rfl | ⟨r1, r2, r3, r4⟩
      · left; simp
      · right; exact ⟨by omega, by omega, by omega, r4⟩
    · right
      refine ⟨by omega, by omega, by omega, ?_⟩
      rcases q6 with rfl | ⟨_, _, _, r⟩
      · rfl
      · exact r
  · rcases q6 with rfl | ⟨r1, r2, r3, r4⟩
    · refine ⟨⟨b, (off + l) * sz, none⟩, m - l, ty, n, ?_, q1, by omega, by omega, by omega, fun hft => by have := hf hft; omega, .inl rfl⟩
      simp only [cutV, if_neg hml, Option.map_some, add_off]
      rw [Nat.add_mul]
    · exfalso; omega

theorem slice_run {P : Program} {T : Tab} (hT : TabOk P T) {t e : TypeId} {sz : Nat} (hu : P.underlying t = some (.slice e)) (hsz : sizeT T e = some sz) (w : World) {a : Option Addr} {len cap l h m : Nat} {vl vh vm : Option Value}
    (hb : (Instr.sliceBounds true len cap vl vh vm).run P w = .ok (l, h, m) w) : (Instr.sliceAt t (.slice a len cap) vl vh vm).run P w = .ok (cutV (.slice a len cap) sz l h m) w := by
  simp [Instr.sliceAt, run_underlying hu, Instr.slice, hb, sizeT_run hT hsz, cutV]

theorem RD.len {w : World} {lv : Nat → Nat} {n : LK} {sz : Nat} {xs : Row} {v : Value} (h : RD w lv (.list n sz xs) v) : ∃ a cap, v = .slice a xs.length cap ∧ xs.length ≤ cap := by
  cases h with
  | nil => exact ⟨_, _, rfl, Nat.le_refl _⟩
  | void sz a hk => exact ⟨_, _, rfl, Nat.le_refl _⟩
  | list vs a1 a2 a3 a4 a5 a6 a7 a8 => exact ⟨_, _, rfl, a2⟩

theorem slice_ok {P : Program} {T : Tab} {c : Cx} (hT : TabOk P T) {t : TypeId} {X : AV} {lo hi mx : Option AV} {res : AV} {v : Value} {vl vh vm : Option Value} (h : slice T t X lo hi mx = some res) (hx : VL c X v)
    (v1 : OptVL c lo vl) (v2 : OptVL c hi vh) (v3 : OptVL c mx vm) : RunsTo P c (Instr.sliceAt t v vl vh vm) res := by
  unfold slice at h
  split at h
  · rename_i hk
    have hu := kindT_str hT hk
    split at h
    · cases hx with | dat hx => cases hx with | str =>
      split at h
      · have : vm = none := by cases vm with | none => rfl | some _ => exact v3.elim
        subst this
        split at h
        · rename_i l h' hl hh
          split at h
          · rename_i h0
            injection h with h; subst h
            have hb := bounds2_ok (P := P) (w := c.w) false _ _ hl hh v1 v2 h0.1 h0.2.1 h0.2.2 (Nat.le_refl _)
            exact ⟨_, by simp [Instr.sliceAt, run_underlying hu, Instr.slice, hb], .dat (.str _)⟩
          · cases h
        · cases h
      · cases h
    · cases h
  · rename_i e hk
    have hu := kindT_slice hT hk
    split at h
    · rename_i sz hsz
      split at h
      · rename_i n s xs
        split at h
        · rename_i l h' hl hh
          have : vm = none := by cases vm with | none => rfl | some _ => exact v3.elim
          subst this
          split at h
          · rename_i h0
            obtain ⟨h0, h1, h2, hns⟩ := h0
            injection h with h; subst h
            cases hx with
            | dat hd =>
              have hd0 := hd
              obtain ⟨a, cap, rfl, hcap⟩ := hd.len
              have hb := bounds2_ok (P := P) (w := c.w) true _ _ hl hh v1 v2 h0 h1 h2 hcap
              refine ⟨_, slice_run hT hu hsz c.w hb, .dat ?_⟩
              cases hd with
              | nil =>
                have e1 : l = 0 := by simp at h2; omega
                have e2 : h' = 0 := by simp at h2; omega
                subst e1; subst e2
                simp only [cutV, Int.toNat_zero, List.drop_zero, List.take_nil, Nat.sub_self]
                exact .nil _
              | void sz0 ad hk =>
                have e1 : l = 0 := by simp at h2; omega
                have e2 : h' = 0 := by simp at h2; omega
                subst e1; subst e2
                simp only [cutV, Int.toNat_zero, List.drop_zero, List.take_nil, Nat.sub_self, if_true]
                exact .void _ _ (by split <;> simp_all)
              | list vs a1 a2 a3 a4 a5 a6 a7 a8 =>
                rename_i b o
                have hs : s = sz := hns.resolve_left a7
                subst hs
                have hsub : l.toNat + (h'.toNat - l.toNat) ≤ xs.length := by omega
                have hk : (if n = LK.full ∧ h' < (xs.length : Int) then LK.any else n) ≠ .nil := by split <;> simp_all
                by_cases hml : cap = l.toNat
                · have e1 : h'.toNat - l.toNat = 0 := by omega
                  have e2 : cap - l.toNat = 0 := by omega
                  simp only [cutV, if_pos hml, e1, e2, List.take_zero]
                  exact .empty _ _ hk _ _ rfl
                · simp only [cutV, if_neg hml, Option.map_some, add_off]
                  refine hd0.sub hsub (by omega) (by omega) hk (fun e => ?_)
                  split at e
                  · cases e
                  · rename_i hnf
                    have := a8 e
                    have : ¬ (h' < (xs.length : Int)) := fun hlt => hnf ⟨e, hlt⟩
                    omega
          · cases h
        · rename_i l h' _ m hl hh
          split at h
          · rename_i h0
            obtain ⟨h0, h1, h2, hnn, hs, h3, h4⟩ := h0
            subst hs
            injection h with h; subst h
            cases vm with
            | none => exact v3.elim
            | some vm =>
              have v3' : VL c _ vm := v3
              cases v3' with | dat v3' => cases v3' with | int =>
              rename_i km
              cases hx with
              | dat hd =>
                have hd0 := hd
                obtain ⟨a, cap, rfl, hcap⟩ := hd.len
                have hbb := bounds3_ok (P := P) (w := c.w) (k := km) _ _ hl hh v1 v2 h0 h1 h2 hcap h3 h4
                refine ⟨_, slice_run hT hu hsz c.w hbb, .dat ?_⟩
                cases hd with
                | nil => exact absurd rfl hnn
                | void sz0 ad hk =>
                  have e1 : l = 0 := by simp at h2; omega
                  have e2 : h' = 0 := by simp at h2; omega
                  subst e1; subst e2
                  simp only [cutV, Int.toNat_zero, List.drop_zero, List.take_nil, Nat.sub_self, if_true]
                  exact .void _ _ (by simp)
                | list vs a1 a2 a3 a4 a5 a6 a7 a8 =>
                  rename_i b o
                  have hsub : l.toNat + (h'.toNat - l.toNat) ≤ xs.length := by omega
                  by_cases hml : h'.toNat = l.toNat
                  · have e1 : h'.toNat - l.toNat = 0 := by omega
                    simp only [cutV, if_pos hml, e1, List.take_zero]
                    exact .empty _ _ (by simp) _ _ rfl
                  · simp only [cutV, if_neg hml, Option.map_some, add_off]
                    exact hd0.sub hsub (by omega) (by omega) (by simp) (fun _ => rfl)
          · cases h
        · cases h
      · rename_i f r s off len
        split at h
        · rename_i hs
          subst hs
          cases hx with
          | sh hb hl hsl =>
            split at h
            · rename_i l h' hl' hh
              have : vm = none := by cases vm with | none => rfl | some _ => exact v3.elim
              subst this
              split at h
              · rename_i h0
                obtain ⟨h0, h1, h2⟩ := h0
                injection h with h; subst h
                have hsl0 := hsl
                obtain ⟨ad, cap, ty, n, rfl, q1, q2, q3, q4, q5, q6⟩ := hsl
                have hbb := bounds2_ok (P := P) (w := c.w) true _ _ hl' hh v1 v2 h0 h1 h2 q2
                refine ⟨_, slice_run hT hu hsz c.w hbb, .sh hb (by omega) (hsl0.cut (by omega) (by omega) ⟨_, _, rfl, by omega, Nat.le_refl _⟩ (fun hf => ?_))⟩
                simp only [Bool.and_eq_true, decide_eq_true_eq] at hf
                have := q5 hf.1
                omega
              · cases h
            · rename_i l h' _ m hl' hh
              split at h
              · rename_i h0
                obtain ⟨h0, h1, h2, h3, h4⟩ := h0
                injection h with h; subst h
                cases vm with
                | none => exact v3.elim
                | some vm =>
                  have v3' : VL c _ vm := v3
                  cases v3' with | dat v3' => cases v3' with | int =>
                  rename_i km
                  have hsl0 := hsl
                  obtain ⟨ad, cap, ty, n, rfl, q1, q2, q3, q4, q5, q6⟩ := hsl
                  have hbb := bounds3_ok (P := P) (w := c.w) (k := km) _ _ hl' hh v1 v2 h0 h1 h2 q2 h3 h4
                  exact ⟨_, slice_run hT hu hsz c.w hbb, .sh hb (by omega) (hsl0.cut (by omega) (by omega) ⟨_, _, rfl, by omega, by omega⟩ (fun _ => rfl))⟩
              · cases h
            · cases h
        · cases h
      · rename_i f g j e' s off len
        split at h
        · rename_i hs
          subst hs
          cases hx with
          | gh hle hmx hfl he hh0 =>
            rename_i bs os cap
            split at h
            · rename_i l h' hl' hh
              have : vm = none := by cases vm with | none => rfl | some _ => exact v3.elim
              subst this
              split at h
              · rename_i h0
                obtain ⟨h0, h1, h2⟩ := h0
                injection h with h; subst h
                have hbb := bounds2_ok (P := P) (w := c.w) true _ _ hl' hh v1 v2 h0 h1 h2 hle
                have hr := slice_run hT hu hsz c.w (a := some ⟨bs, os, none⟩) hbb
                have hv : cutV (.slice (some ⟨bs, os, none⟩) len cap) s l.toNat h'.toNat cap = .slice (some ⟨bs, if cap = l.toNat then os else os + l.toNat * s, none⟩) (h'.toNat - l.toNat) (cap - l.toNat) := by
                  by_cases hml : cap = l.toNat <;> simp [cutV, hml, add_off]
                refine ⟨_, hr, ?_⟩
                rw [hv]
                refine .gh (by omega) (by omega) (fun hf => ?_) he (fun ee => ?_)
                · simp only [Bool.and_eq_true, decide_eq_true_eq] at hf
                  have := hfl hf.1
                  omega
                · obtain ⟨bo, b, l0, c0, z1, z2, z3, hsl⟩ := hh0 ee
                  refine ⟨bo, b, l0, c0, z1, z2, by omega, ?_⟩
                  rw [← hv]
                  refine hsl.cut (by omega) (by omega) ⟨_, _, rfl, by omega, Nat.le_refl _⟩ (fun hf => ?_)
                  simp only [Bool.and_eq_true, decide_eq_true_eq] at hf
                  have := hfl hf.1
                  omega
              · cases h
            · rename_i l h' _ m hl' hh
              split at h
              · rename_i h0
                obtain ⟨h0, h1, h2, h3, h4⟩ := h0
                injection h with h; subst h
                cases vm with
                | none => exact v3.elim
                | some vm =>
                  have v3' : VL c _ vm := v3
                  cases v3' with | dat v3' => cases v3' with | int =>
                  rename_i km
                  have hbb := bounds3_ok (P := P) (w := c.w) (k := km) _ _ hl' hh v1 v2 h0 h1 h2 hle h3 h4
                  have hr := slice_run hT hu hsz c.w (a := some ⟨bs, os, none⟩) hbb
                  have hv : cutV (.slice (some ⟨bs, os, none⟩) len cap) s l.toNat h'.toNat h'.toNat = .slice (some ⟨bs, if h'.toNat = l.toNat then os else os + l.toNat * s, none⟩) (h'.toNat - l.toNat) (h'.toNat - l.toNat) := by
                    by_cases hml : h'.toNat = l.toNat <;> simp [cutV, hml, add_off]
                  refine ⟨_, hr, ?_⟩
                  rw [hv]
                  refine .gh (Nat.le_refl _) (by omega) (fun _ => rfl) he (fun ee => ?_)
                  obtain ⟨bo, b, l0, c0, z1, z2, z3, hsl⟩ := hh0 ee
                  refine ⟨bo, b, l0, c0, z1, z2, by omega, ?_⟩
                  rw [← hv]
                  exact hsl.cut (by omega) (by omega) ⟨_, _, rfl, by omega, by omega⟩ (fun _ => rfl)
              · cases h
            · cases h
        · cases h
      · cases h
    · cases h
  · cases h

end Go.Eng
