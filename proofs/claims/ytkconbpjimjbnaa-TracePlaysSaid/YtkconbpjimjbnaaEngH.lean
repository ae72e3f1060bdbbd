/- '==' of structs and arrays; nil; fields, indexes, parts. -/
import Derived.Test.YtkconbpjimjbnaaEngG
import Derived.Laws.StructEq
import Derived.ChangeKeysEq
import Derived.DeepKeys
namespace Go.Eng
open Go Go.RowKit

/-- the value that cells make -/
def valOf (agg : Bool) (vs : List Value) : Value := if agg then .agg vs.toArray else vs.headD Go.undef

theorem part_ok {P : Program} {t : TypeId} {ti : TI} {i : TypeInfo} {d : TypeDesc} {z : Value} {w : World} (f : TyFacts P t ti i d z) (cs : Array Value) (off : Nat)
    (h : off + ti.size ≤ cs.size) (h1 : ti.k.isAgg = true ∨ ti.size = 1) : (part t cs off).run P w = .ok (valOf ti.k.isAgg ((cs.toList.drop off).take ti.size)) w := by
  unfold part
  simp only [Sem.run_bind, f.isAgg, Result.andThen_ok]
  cases hk : ti.k.isAgg with
  | true =>
    simp only [if_true, Sem.run_bind, f.sizeOf, Result.andThen_ok, Sem.run_pure, valOf]
    congr 2
    apply Array.ext'
    simp [Array.toList_extract, List.extract, List.take_drop]
  | false =>
    have hs : ti.size = 1 := by simpa [hk] using h1
    have ho : off < cs.size := by omega
    simp only [Bool.false_eq_true, if_false, hs, valOf]
    have : cs[off]? = some cs[off] := by simp [ho]
    simp [this, List.drop_eq_getElem_cons (show off < cs.toList.length by simpa using ho)]

theorem eqLeaf_ok {P : Program} {c : Cx} {t : TypeId} {ti : TI} {i : TypeInfo} {ds : TypeDesc} {z : Value} {w : World} (f : TyFacts P t ti i ds z)
    {xs ys : List AV} {vs us : List Value} {b : Bool} (h : eqLeaf ti.k xs ys = some b) (hx : All2 (VL c) xs vs) (hy : All2 (VL c) ys us) (d : Nat) :
    (Op.equalIn (d + 1) t (valOf false vs) (valOf false us)).run P w = .ok b w := by
  have hkd := f.kind
  unfold eqLeaf at h
  split at h
  · rename_i hk
    rw [hk] at hkd
    split at h
    · split at h
      · injection h with h
        subst h
        match vs, us, hx, hy with
        | [v], [u], hx, hy =>
          have e1 := hx.1
          have e2 := hy.1
          cases e1 with | dat e1 => cases e1 with | bool =>
          cases e2 with | dat e2 => cases e2 with | bool =>
          have : ds = .bool := by cases ds <;> simp_all [kindOk]
          subst this
          simp only [valOf, Bool.false_eq_true, if_false, List.headD_cons]
          exact run_equalIn_bool w d t _ _ f.under
      · cases h
    · cases h
  · rename_i hk
    rw [hk] at hkd
    split at h
    · split at h
      · split at h
        · rename_i hq
          subst hq
          injection h with h
          subst h
          match vs, us, hx, hy with
          | [v], [u], hx, hy =>
            have e1 := hx.1
            have e2 := hy.1
            cases e1 with | dat e1 => cases e1 with | int =>
            cases e2 with | dat e2 => cases e2 with | int =>
            have : ∃ q2, ds = .int q2 := by cases ds <;> simp_all [kindOk]
            obtain ⟨q2, rfl⟩ := this
            simp only [valOf, Bool.false_eq_true, if_false, List.headD_cons]
            exact run_equalIn_int w d t _ _ _ _ f.under
        · cases h
      · cases h
    · cases h
  · rename_i hk
    rw [hk] at hkd
    split at h
    · split at h
      · injection h with h
        subst h
        match vs, us, hx, hy with
        | [v], [u], hx, hy =>
          have e1 := hx.1
          have e2 := hy.1
          cases e1 with | dat e1 => cases e1 with | str =>
          cases e2 with | dat e2 => cases e2 with | str =>
          have : ds = .string := by cases ds <;> simp_all [kindOk]
          subst this
          simp only [valOf, Bool.false_eq_true, if_false, List.headD_cons]
          exact run_equalIn_string w d t _ _ f.under
      · cases h
    · cases h
  · cases h

/-- what 'eqv' keeps to, at a depth -/
def EqOk (P : Program) (T : Tab) (c : Cx) (eq : TypeId → List AV → List AV → Option Bool) (n : Nat) : Prop :=
  ∀ (t : TypeId) (ti : TI) (xs ys : List AV) (vs us : List Value) (b : Bool) (d : Nat) (w : World), T t = some ti → eq t xs ys = some b → All2 (VL c) xs vs → All2 (VL c) ys us →
    (ti.k.isAgg = true ∨ vs.length = 1) ∧ (Op.equalIn (d + n) t (valOf ti.k.isAgg vs) (valOf ti.k.isAgg us)).run P w = .ok b w

theorem eqFs_ok {P : Program} {T : Tab} {c : Cx} (hT : TabOk P T) {eq : TypeId → List AV → List AV → Option Bool} {n : Nat} (he : EqOk P T c eq n) {xs ys : List AV} {vs us : List Value}
    (hx : All2 (VL c) xs vs) (hy : All2 (VL c) ys us) (d : Nat) (w : World) : ∀ (gs : List Field) (b : Bool), (∀ g ∈ gs, (g.name == "_") = false) → eqFs T eq xs ys (gs.map fun f => (f.offset, f.type)) = some b →
      (Op.eqFields (d + n) vs.toArray us.toArray gs).run P w = .ok b w
  | [], b, _, h => by
    simp only [List.map_nil, eqFs, Option.some.injEq] at h
    subst h
    rfl
  | g :: gs, b, hn, h => by
    simp only [List.map_cons, eqFs] at h
    split at h
    · rename_i sz hsz
      split at h
      · rename_i hlen
        split at h
        · rename_i b1 h1
          split at h
          · rename_i b2 h2
            injection h with h
            subst h
            obtain ⟨ti, hti, hs⟩ := sizeT_some hsz
            subst hs
            obtain ⟨i, ds, z, f⟩ := hT.facts hti
            have q1 := hx.length
            have q2 := hy.length
            obtain ⟨r1, r2⟩ := he g.type ti _ _ _ _ b1 d w hti h1 ((hx.drop g.offset).take ti.size) ((hy.drop g.offset).take ti.size)
            have hone : ti.k.isAgg = true ∨ ti.size = 1 := by
              rcases r1 with r1 | r1
              · exact .inl r1
              · right; simp at r1; omega
            have p1 := part_ok (w := w) f vs.toArray g.offset (by simp; omega) hone
            have p2 := part_ok (w := w) f us.toArray g.offset (by simp; omega) hone
            have hname := hn g (by simp)
            have hname' : g.name ≠ "_" := by simpa using hname
            simp only [Op.eqFields, ne_eq, hname', not_false_eq_true, if_true, Sem.run_bind, p1, p2, r2, Result.andThen_ok]
            have ih := eqFs_ok hT he hx hy d w gs b2 (fun g' hg' => hn g' (by simp [hg'])) h2
            cases b1 <;> simp [ih]
          · cases h
        · cases h
      · cases h
    · cases h

theorem eqIs_ok {P : Program} {T : Tab} {c : Cx} {eq : TypeId → List AV → List AV → Option Bool} {n : Nat} (he : EqOk P T c eq n) {xs ys : List AV} {vs us : List Value}
    (hx : All2 (VL c) xs vs) (hy : All2 (VL c) ys us) {e : TypeId} {ti : TI} {i : TypeInfo} {ds : TypeDesc} {z : Value} (hti : T e = some ti) (f : TyFacts P e ti i ds z) (d : Nat) (w : World) :
    ∀ (k m : Nat) (b : Bool), eqIs (eq e) ti.size xs ys m k = some b → (Op.eqItems (d + n) e ti.size vs.toArray us.toArray (List.range' m k)).run P w = .ok b w
  | 0, m, b, h => by
    simp only [eqIs, Option.some.injEq] at h
    subst h
    rfl
  | k + 1, m, b, h => by
    simp only [eqIs] at h
    split at h
    · rename_i hlen
      split at h
      · rename_i b1 h1
        split at h
        · rename_i b2 h2
          injection h with h
          subst h
          have q1 := hx.length
          have q2 := hy.length
          obtain ⟨r1, r2⟩ := he e ti _ _ _ _ b1 d w hti h1 ((hx.drop (m * ti.size)).take ti.size) ((hy.drop (m * ti.size)).take ti.size)
          have hone : ti.k.isAgg = true ∨ ti.size = 1 := by
            rcases r1 with r1 | r1
            · exact .inl r1
            · right; simp at r1; omega
          have p1 := part_ok (w := w) f vs.toArray (m * ti.size) (by simp; omega) hone
          have p2 := part_ok (w := w) f us.toArray (m * ti.size) (by simp; omega) hone
          have ih := eqIs_ok he hx hy hti f d w k (m + 1) b2 h2
          simp only [List.range'_succ, Op.eqItems, Sem.run_bind, p1, p2, r2, Result.andThen_ok]
          cases b1 <;> simp [ih]
        · cases h
      · cases h
    · cases h


theorem eqv_ok {P : Program} {T : Tab} {c : Cx} (hT : TabOk P T) : ∀ n, EqOk P T c (eqv T n) n
  | 0 => by
    intro t ti xs ys vs us b d w hti h hx hy
    simp [eqv] at h
  | n + 1 => by
    intro t ti xs ys vs us b d w hti h hx hy
    have ih := eqv_ok (c := c) hT n
    simp only [eqv, hti] at h
    obtain ⟨i, ds, z, f⟩ := hT.facts hti
    split at h
    · rename_i hc
      obtain ⟨c1, c2, c3⟩ := f.cmp hc
      have hk := f.kind
      split at h
      · rename_i fs hfs
        rw [hfs] at hk ⊢
        have : ∃ gs, ds = .struct gs ∧ fs = gs.toList.map fun g => (g.offset, g.type) := by
          cases ds <;> simp_all [kindOk]
        obtain ⟨gs, rfl, rfl⟩ := this
        refine ⟨.inl rfl, ?_⟩
        simp only [TK.isAgg, valOf, if_true]
        have hu : P.underlying t = some (.struct (P.fieldsOf t)) := by simp [Program.fieldsOf, f.under]
        have hfo : P.fieldsOf t = gs := by simp [Program.fieldsOf, f.under]
        rw [← Nat.add_assoc, run_equalIn_struct w (d + n) t _ _ hu c1, hfo]
        exact eqFs_ok hT ih hx hy d w gs.toList b (c3 gs rfl) h
      · rename_i len e he
        rw [he] at hk ⊢
        have : ds = .array len e := by
          cases ds <;> simp_all [kindOk]
        subst this
        split at h
        · rename_i sz hsz
          obtain ⟨te, hte, hs⟩ := sizeT_some hsz
          subst hs
          obtain ⟨i2, ds2, z2, f2⟩ := hT.facts hte
          refine ⟨.inl rfl, ?_⟩
          simp only [TK.isAgg, valOf, if_true]
          have hce : P.cellsOf e = te.size := by simp [Program.cellsOf, f2.info, f2.size]
          have := eqIs_ok ih hx hy hte f2 d w len 0 b h
          rw [← Nat.add_assoc, run_equalIn_array w (d + n) _ _ f.under f2.info, hce, List.range_eq_range']
          exact this
        · cases h
      · rename_i k hk1 hk2
        have hagg : ti.k.isAgg = false := by
          cases hk3 : ti.k <;> simp_all [TK.isAgg]
        have hlen : vs.length = 1 := by
          have := hx.length
          unfold eqLeaf at h
          repeat' split at h
          all_goals first
            | cases h; done
            | (simp only [List.length_cons, List.length_nil] at this; omega)
        refine ⟨.inr hlen, ?_⟩
        rw [hagg, ← Nat.add_assoc]
        exact eqLeaf_ok f h hx hy (d + n)
    · cases h

theorem bool_kind {P : Program} {T : Tab} (hT : TabOk P T) {t : TypeId} (h : kindT T t = some .bool) : P.underlying t = some .bool := by
  obtain ⟨ti, hti, hk⟩ := kindT_some h
  obtain ⟨i, ds, z, f⟩ := hT.facts hti
  have := f.kind
  rw [hk] at this
  have : ds = .bool := by cases ds <;> simp_all [kindOk]
  rw [← this]; exact f.under


def NilShape : Nat → Bool → Value → Prop
  | 0, true, v => v = .pointer none
  | 0, false, v => ∃ a, v = .pointer (some a)
  | 1, true, v => v = .slice none 0 0
  | 1, false, v => ∃ a n c, v = .slice (some a) n c
  | 2, true, v => v = .nilFunc
  | 2, false, v => ∃ f x y, v = .func f x y
  | 3, true, v => v = .nilIface
  | 3, false, v => ∃ t x, v = .iface t x
  | _, _, _ => False

theorem listShape {w : World} {lv : Nat → Nat} {k : LK} {sz : Nat} {xs : Row} {v : Value} (h : RD w lv (.list k sz xs) v) : NilShape 1 k.isNil v := by
  have key : ∀ a n c, k ≠ .nil → NilShape 1 k.isNil (.slice (some a) n c) := by
    intro a n c hk
    cases k with
    | nil => exact absurd rfl hk
    | any => exact ⟨_, _, _, rfl⟩
    | full => exact ⟨_, _, _, rfl⟩
  cases h with
  | nil => rfl
  | void sz a hk => exact key _ _ _ hk
  | list vs _ _ _ _ _ _ hk _ => exact key _ _ _ hk

theorem isNil_shape {c : Cx} {x : AV} {v : Value} {k : Nat} {b : Bool} (h : isNil x = some (k, b)) (hx : VL c x v) : NilShape k b v := by
  unfold isNil at h
  split at h <;> first
    | (cases h; done)
    | (simp only [Option.some.injEq, Prod.mk.injEq] at h
       obtain ⟨rfl, rfl⟩ := h
       cases hx <;> first
         | rfl
         | exact ⟨_, rfl⟩
         | exact ⟨_, _, rfl⟩
         | exact ⟨_, _, _, rfl⟩
         | (rename_i hd; exact listShape hd)
         | (rename_i hs; obtain ⟨ad, cap, ty, n, rfl, _⟩ := hs; exact ⟨_, _, _, rfl⟩))

/-- '==' between values of which one is nil -/
theorem nilEq_ok {P : Program} {T : Tab} {c : Cx} (hT : TabOk P T) {t : TypeId} {k : TK} (hk : kindT T t = some k) {x y : AV} {v u : Value} {b : Bool} (h : nilEq (nilKind k) x y = some b)
    (hx : VL c x v) (hy : VL c y u) (w : World) : (Op.equal t v u).run P w = .ok b w := by
  obtain ⟨ti, hti, hk⟩ := kindT_some hk
  obtain ⟨i, ds, z, f⟩ := hT.facts hti
  have hkd := f.kind
  rw [hk] at hkd
  have hu := f.under
  unfold nilEq at h
  split at h
  · rename_i k1 a h1
    split at h
    · rename_i k2 b' h2
      split at h
      · rename_i hc
        obtain ⟨e1, e2, hab⟩ := hc
        injection h with h
        subst h
        have s1 := isNil_shape h1 hx
        have s2 := isNil_shape h2 hy
        rw [e1] at s1
        rw [e2] at s2
        refine (?_ : ∀ d, (Op.equalIn (d + 1) t v u).run P w = .ok (a && b') w) 9999
        intro d
        clear h1 h2 hx hy
        cases k with
        | ptr e =>
          have : ds = .pointer e := by cases ds <;> simp_all [kindOk]
          subst this
          cases a <;> cases b' <;> simp only [nilKind, NilShape] at s1 s2
          · cases hab
          · obtain ⟨ad, rfl⟩ := s1; subst s2; simp [Op.equalIn, run_underlying hu]
          · obtain ⟨ad, rfl⟩ := s2; subst s1; simp [Op.equalIn, run_underlying hu]
          · subst s1; subst s2; simp [Op.equalIn, run_underlying hu]
        | slice e =>
          have : ds = .slice e := by cases ds <;> simp_all [kindOk]
          subst this
          cases a <;> cases b' <;> simp only [nilKind, NilShape] at s1 s2
          · cases hab
          · obtain ⟨ad, n, c, rfl⟩ := s1; subst s2; simp [Op.equalIn, run_underlying hu]
          · obtain ⟨ad, n, c, rfl⟩ := s2; subst s1; simp [Op.equalIn, run_underlying hu]
          · subst s1; subst s2; simp [Op.equalIn, run_underlying hu]
        | func =>
          have : ∃ p q r, ds = .func p q r := by cases ds <;> simp_all [kindOk]
          obtain ⟨p, q, r, rfl⟩ := this
          cases a <;> cases b' <;> simp only [nilKind, NilShape] at s1 s2
          · cases hab
          · obtain ⟨ad, n, c, rfl⟩ := s1; subst s2; simp [Op.equalIn, run_underlying hu]
          · obtain ⟨ad, n, c, rfl⟩ := s2; subst s1; simp [Op.equalIn, run_underlying hu]
          · subst s1; subst s2; simp [Op.equalIn, run_underlying hu]
        | iface =>
          have : ∃ p, ds = .interface p := by cases ds <;> simp_all [kindOk]
          obtain ⟨p, rfl⟩ := this
          cases a <;> cases b' <;> simp only [nilKind, NilShape] at s1 s2
          · cases hab
          · obtain ⟨ad, n, rfl⟩ := s1; subst s2; simp [Op.equalIn, run_underlying hu]
          · obtain ⟨ad, n, rfl⟩ := s2; subst s1; simp [Op.equalIn, run_underlying hu]
          · subst s1; subst s2; simp [Op.equalIn, run_underlying hu]
        | _ => simp [nilKind, NilShape] at s1
      · cases h
    · cases h
  · cases h

end Go.Eng
