/- '==' of structs and arrays; nil; fields, indexes, parts. -/
import Derived.Test.YtkbbgehnooncoaaGreatDoorWp9
import Derived.Laws.StructEq
import Derived.ChangeKeysEq
import Derived.DeepKeys
section
namespace Go.Eng
open Go Go.RowKit
variable [Inhabited Pkg]
set_option linter.unusedSectionVars false

/-- the value that cells make -/
def valOf (agg : Bool) (vs : List Value) : Value := if agg then .agg vs.toArray else vs.headD Go.undef

theorem part_ok {P : Program} {t : TypeId} {ti : TI} {i : TypeInfo} {d : TypeDesc} {z : Value} {w : World} (f : TyFacts P t ti i d z) (cs : Array Value) (off : Nat)
    (h : off + ti.size ≤ cs.size) (h1 : ti.k.isAgg = true ∨ ti.size = 1) : (part t cs off).run P w = .ok (valOf ti.k.isAgg ((cs.toList.drop off).take ti.size)) w := by
  unfold part
  simp only [Sem.run_bind, f.isAgg, Result.andThen_ok]
  cases hk : ti.k.isAgg with
  | true =>
    simp only [if_true, Sem.run_bind, f.sizeOf, Result.andThen_ok, Sem.run_pure, valOf]
    congr 2
    apply Array.ext'
    simp [Array.toList_extract, List.extract, List.take_drop]
  | false =>
    have hs : ti.size = 1 := by simpa [hk] using h1
    have ho : off < cs.size := by omega
    simp only [Bool.false_eq_true, if_false, hs, valOf]
    have : cs[off]? = some cs[off] := by simp [ho]
    simp [this, List.drop_eq_getElem_cons (show off < cs.toList.length by simpa using ho)]

theorem eqLeaf_ok {P : Program} {c : Cx} {t : TypeId} {ti : TI} {i : TypeInfo} {ds : TypeDesc} {z : Value} {w : World} (f : TyFacts P t ti i ds z)
    {xs ys : List AV} {vs us : List Value} {b : Bool} (h : eqLeaf ti.k xs ys = some b) (hx : All2 (VL c) xs vs) (hy : All2 (VL c) ys us) (d : Nat) :
    (Op.equalIn (d + 1) t (valOf false vs) (valOf false us)).run P w = .ok b w := by
  have hkd := f.kind
  unfold eqLeaf at h
  split at h
  · rename_i hk
    rw [hk] at hkd
    split at h
    · split at h
      · injection h with h
        subst h
        match vs, us, hx, hy with
        | [v], [u], hx, hy =>
          have e1 := hx.1
          have e2 := hy.1
          cases e1 with | dat e1 => cases e1 with | bool =>
          cases e2 with | dat e2 => cases e2 with | bool =>
          have : ds = .bool := by cases ds <;> simp_all [kindOk]
          subst this
          simp only [valOf, Bool.false_eq_true, if_false, List.headD_cons]
          exact run_equalIn_bool w d t _ _ f.under
      · cases h
    · cases h
  · rename_i hk
    rw [hk] at hkd
    split at h
    · split at h
      · split at h
        · rename_i hq
          subst hq
          injection h with h
          subst h
          match vs, us, hx, hy with
          | [v], [u], hx, hy =>
            have e1 := hx.1
            have e2 := hy.1
            cases e1 with | dat e1 => cases e1 with | int =>
            cases e2 with | dat e2 => cases e2 with | int =>
            have : ∃ q2, ds = .int q2 := by cases ds <;> simp_all [kindOk]
            obtain ⟨q2, rfl⟩ := this
            simp only [valOf, Bool.false_eq_true, if_false, List.headD_cons]
            exact run_equalIn_int w d t _ _ _ _ f.under
        · cases h
      · cases h
    · cases h
  · rename_i hk
    rw [hk] at hkd
    split at h
    · split at h
      · injection h with h
        subst h
        match vs, us, hx, hy with
        | [v], [u], hx, hy =>
          have e1 := hx.1
          have e2 := hy.1
          cases e1 with | dat e1 => cases e1 with | str =>
          cases e2 with | dat e2 => cases e2 with | str =>
          have : ds = .string := by cases ds <;> simp_all [kindOk]
          subst this
          simp only [valOf, Bool.false_eq_true, if_false, List.headD_cons]
          exact run_equalIn_string w d t _ _ f.under
      · cases h
    · cases h
  · cases h

/-- what 'eqv' keeps to, at a depth -/
def EqOk (P : Program) (T : Tab) (c : Cx) (eq : TypeId → List AV → List AV → Option Bool) (n : Nat) : Prop :=
  ∀ (t : TypeId) (ti : TI) (xs ys : List AV) (vs us : List Value) (b : Bool) (d : Nat) (w : World), T t = some ti → eq t xs ys = some b → All2 (VL c) xs vs → All2 (VL c) ys us →
    (ti.k.isAgg = true ∨ vs.length = 1) ∧ (Op.equalIn (d + n) t (valOf ti.k.isAgg vs) (valOf ti.k.isAgg us)).run P w = .ok b w

theorem eqFs_ok {P : Program} {T : Tab} {c : Cx} (hT : TabOk P T) {eq : TypeId → List AV → List AV → Option Bool} {n : Nat} (he : EqOk P T c eq n) {xs ys : List AV} {vs us : List Value}
    (hx : All2 (VL c) xs vs) (hy : All2 (VL c) ys us) (d : Nat) (w : World) : ∀ (gs : List Field) (b : Bool), (∀ g ∈ gs, (g.name == "_") = false) → eqFs T eq xs ys (gs.map fun f => (f.offset, f.type)) = some b →
      (Op.eqFields (d + n) vs.toArray us.toArray gs).run P w = .ok b w
  | [], b, _, h => by
    simp only [List.map_nil, eqFs, Option.some.injEq] at h
    subst h
    rfl
  | g :: gs, b, hn, h => by
    simp only [List.map_cons, eqFs] at h
    split at h
    · rename_i sz hsz
      split at h
      · rename_i hlen
        split at h
        · rename_i b1 h1
          split at h
          · rename_i b2 h2
            injection h with h
            subst h
            obtain ⟨ti, hti, hs⟩ := sizeT_some hsz
            subst hs
            obtain ⟨i, ds, z, f⟩ := hT.facts hti
            have q1 := hx.length
            have q2 := hy.length
            obtain ⟨r1, r2⟩ := he g.type ti _ _ _ _ b1 d w hti h1 ((hx.drop g.offset).take ti.size) ((hy.drop g.offset).take ti.size)
            have hone : ti.k.isAgg = true ∨ ti.size = 1 := by
              rcases r1 with r1 | r1
              · exact .inl r1
              · right; simp at r1; omega
            have p1 := part_ok (w := w) f vs.toArray g.offset (by simp; omega) hone
            have p2 := part_ok (w := w) f us.toArray g.offset (by simp; omega) hone
            have hname := hn g (by simp)
            have hname' : g.name ≠ "_" := by simpa using hname
            simp only [Op.eqFields, ne_eq, hname', not_false_eq_true, if_true, Sem.run_bind, p1, p2, r2, Result.andThen_ok]
            have ih := eqFs_ok hT he hx hy d w gs b2 (fun g' hg' => hn g' (by simp [hg'])) h2
            cases b1 <;> simp [ih]
          · cases h
        · cases h
      · cases h
    · cases h

theorem eqIs_ok {P : Program} {T : Tab} {c : Cx} {eq : TypeId → List AV → List AV → Option Bool} {n : Nat} (he : EqOk P T c eq n) {xs ys : List AV} {vs us : List Value}
    (hx : All2 (VL c) xs vs) (hy : All2 (VL c) ys us) {e : TypeId} {ti : TI} {i : TypeInfo} {ds : TypeDesc} {z : Value} (hti : T e = some ti) (f : TyFacts P e ti i ds z) (d : Nat) (w : World) :
    ∀ (k m : Nat) (b : Bool), eqIs (eq e) ti.size xs ys m k = some b → (Op.eqItems (d + n) e ti.size vs.toArray us.toArray (List.range' m k)).run P w = .ok b w
  | 0, m, b, h => by
    simp only [eqIs, Option.some.injEq] at h
    subst h
    rfl
  | k + 1, m, b, h => by
    simp only [eqIs] at h
    split at h
    · rename_i hlen
      split at h
      · rename_i b1 h1
        split at h
        · rename_i b2 h2
          injection h with h
          subst h
          have q1 := hx.length
          have q2 := hy.length
          obtain ⟨r1, r2⟩ := he e ti _ _ _ _ b1 d w hti h1 ((hx.drop (m * ti.size)).take ti.size) ((hy.drop (m * ti.size)).take ti.size)
          have hone : ti.k.isAgg = true ∨ ti.size = 1 := by
            rcases r1 with r1 | r1
            · exact .inl r1
            · right; simp at r1; omega
          have p1 := part_ok (w := w) f vs.toArray (m * ti.size) (by simp; omega) hone
          have p2 := part_ok (w := w) f us.toArray (m * ti.size) (by simp; omega) hone
          have ih := eqIs_ok he hx hy hti f d w k (m + 1) b2 h2
          simp only [List.range'_succ, Op.eqItems, Sem.run_bind, p1, p2, r2, Result.andThen_ok]
          cases b1 <;> simp [ih]
        · cases h
      · cases h
    · cases h


theorem eqv_ok {P : Program} {T : Tab} {c : Cx} (hT : TabOk P T) : ∀ n, EqOk P T c (eqv T n) n
  | 0 => by
    intro t ti xs ys vs us b d w hti h hx hy
    simp [eqv] at h
  | n + 1 => by
    intro t ti xs ys vs us b d w hti h hx hy
    have ih := eqv_ok (c := c) hT n
    simp only [eqv, hti] at h
    obtain ⟨i, ds, z, f⟩ := hT.facts hti
    split at h
    · rename_i hc
      obtain ⟨c1, c2, c3⟩ := f.cmp hc
      have hk := f.kind
      split at h
      · rename_i fs hfs
        rw [hfs] at hk ⊢
        have : ∃ gs, ds = .struct gs ∧ fs = gs.toList.map fun g => (g.offset, g.type) := by
          cases ds <;> simp_all [kindOk]
        obtain ⟨gs, rfl, rfl⟩ := this
        refine ⟨.inl rfl, ?_⟩
        simp only [TK.isAgg, valOf, if_true]
        have hu : P.underlying t = some (.struct (P.fieldsOf t)) := by simp [Program.fieldsOf, f.under]
        have hfo : P.fieldsOf t = gs := by simp [Program.fieldsOf, f.under]
        rw [← Nat.add_assoc, run_equalIn_struct w (d + n) t _ _ hu c1, hfo]
        exact eqFs_ok hT ih hx hy d w gs.toList b (c3 gs rfl) h
      · rename_i len e he
        rw [he] at hk ⊢
        have : ds = .array len e := by
          cases ds <;> simp_all [kindOk]
        subst this
        split at h
        · rename_i sz hsz
          obtain ⟨te, hte, hs⟩ := sizeT_some hsz
          subst hs
          obtain ⟨i2, ds2, z2, f2⟩ := hT.facts hte
          refine ⟨.inl rfl, ?_⟩
          simp only [TK.isAgg, valOf, if_true]
          have hce : P.cellsOf e = te.size := by simp [Program.cellsOf, f2.info, f2.size]
          have := eqIs_ok ih hx hy hte f2 d w len 0 b h
          rw [← Nat.add_assoc, run_equalIn_array w (d + n) _ _ f.under f2.info, hce, List.range_eq_range']
          exact this
        · cases h
      · rename_i k hk1 hk2
        have hagg : ti.k.isAgg = false := by
          cases hk3 : ti.k <;> simp_all [TK.isAgg]
        have hlen : vs.length = 1 := by
          have := hx.length
          unfold eqLeaf at h
          repeat' split at h
          all_goals first
            | cases h; done
            | (simp only [List.length_cons, List.length_nil] at this; omega)
        refine ⟨.inr hlen, ?_⟩
        rw [hagg, ← Nat.add_assoc]
        exact eqLeaf_ok f h hx hy (d + n)
    · cases h

theorem bool_kind {P : Program} {T : Tab} (hT : TabOk P T) {t : TypeId} (h : kindT T t = some .bool) : P.underlying t = some .bool := by
  obtain ⟨ti, hti, hk⟩ := kindT_some h
  obtain ⟨i, ds, z, f⟩ := hT.facts hti
  have := f.kind
  rw [hk] at this
  have : ds = .bool := by cases ds <;> simp_all [kindOk]
  rw [← this]; exact f.under


def NilShape : Nat → Bool → Value → Prop
  | 0, true, v => v = .pointer none
  | 0, false, v => ∃ a, v = .pointer (some a)
  | 1, true, v => v = .slice none 0 0
  | 1, false, v => ∃ a n c, v = .slice (some a) n c
  | 2, true, v => v = .nilFunc
  | 2, false, v => ∃ f x y, v = .func f x y
  | 3, true, v => v = .nilIface
  | 3, false, v => ∃ t x, v = .iface t x
  | _, _, _ => False

theorem listShape {w : World} {lv : Nat → Nat} {k : LK} {sz : Nat} {xs : Row} {v : Value} (h : RD w lv (.list k sz xs) v) : NilShape 1 k.isNil v := by
  have key : ∀ a n c, k ≠ .nil → NilShape 1 k.isNil (.slice (some a) n c) := by
    intro a n c hk
    cases k with
    | nil => exact absurd rfl hk
    | any => exact ⟨_, _, _, rfl⟩
    | full => exact ⟨_, _, _, rfl⟩
  cases h with
  | nil => rfl
  | void sz a hk => exact key _ _ _ hk
  | list vs _ _ _ _ _ _ hk _ => exact key _ _ _ hk

theorem isNil_shape {c : Cx} {x : AV} {v : Value} {k : Nat} {b : Bool} (h : isNil x = some (k, b)) (hx : VL c x v) : NilShape k b v := by
  unfold isNil at h
  split at h <;> first
    | (cases h; done)
    | (simp only [Option.some.injEq, Prod.mk.injEq] at h
       obtain ⟨rfl, rfl⟩ := h
       cases hx <;> first
         | rfl
         | exact ⟨_, rfl⟩
         | exact ⟨_, _, rfl⟩
         | exact ⟨_, _, _, rfl⟩
         | (rename_i hd; exact listShape hd)
         | (rename_i hs; obtain ⟨ad, cap, ty, n, rfl, _⟩ := hs; exact ⟨_, _, _, rfl⟩))

/-- '==' between values of which one is nil -/
theorem nilEq_ok {P : Program} {T : Tab} {c : Cx} (hT : TabOk P T) {t : TypeId} {k : TK} (hk : kindT T t = some k) {x y : AV} {v u : Value} {b : Bool} (h : nilEq (nilKind k) x y = some b)
    (hx : VL c x v) (hy : VL c y u) (w : World) : (Op.equal t v u).run P w = .ok b w := by
  obtain ⟨ti, hti, hk⟩ := kindT_some hk
  obtain ⟨i, ds, z, f⟩ := hT.facts hti
  have hkd := f.kind
  rw [hk] at hkd
  have hu := f.under
  unfold nilEq at h
  split at h
  · rename_i k1 a h1
    split at h
    · rename_i k2 b' h2
      split at h
      · rename_i hc
        obtain ⟨e1, e2, hab⟩ := hc
        injection h with h
        subst h
        have s1 := isNil_shape h1 hx
        have s2 := isNil_shape h2 hy
        rw [e1] at s1
        rw [e2] at s2
        refine (?_ : ∀ d, (Op.equalIn (d + 1) t v u).run P w = .ok (a && b') w) 9999
        intro d
        clear h1 h2 hx hy
        cases k with
        | ptr e =>
          have : ds = .pointer e := by cases ds <;> simp_all [kindOk]
          subst this
          cases a <;> cases b' <;> simp only [nilKind, NilShape] at s1 s2
          · cases hab
          · obtain ⟨ad, rfl⟩ := s1; subst s2; simp [Op.equalIn, run_underlying hu]
          · obtain ⟨ad, rfl⟩ := s2; subst s1; simp [Op.equalIn, run_underlying hu]
          · subst s1; subst s2; simp [Op.equalIn, run_underlying hu]
        | slice e =>
          have : ds = .slice e := by cases ds <;> simp_all [kindOk]
          subst this
          cases a <;> cases b' <;> simp only [nilKind, NilShape] at s1 s2
          · cases hab
          · obtain ⟨ad, n, c, rfl⟩ := s1; subst s2; simp [Op.equalIn, run_underlying hu]
          · obtain ⟨ad, n, c, rfl⟩ := s2; subst s1; simp [Op.equalIn, run_underlying hu]
          · subst s1; subst s2; simp [Op.equalIn, run_underlying hu]
        | func =>
          have : ∃ p q r, ds = .func p q r := by cases ds <;> simp_all [kindOk]
          obtain ⟨p, q, r, rfl⟩ := this
          cases a <;> cases b' <;> simp only [nilKind, NilShape] at s1 s2
          · cases hab
          · obtain ⟨ad, n, c, rfl⟩ := s1; subst s2; simp [Op.equalIn, run_underlying hu]
          · obtain ⟨ad, n, c, rfl⟩ := s2; subst s1; simp [Op.equalIn, run_underlying hu]
          · subst s1; subst s2; simp [Op.equalIn, run_underlying hu]
        | iface =>
          have : ∃ p, ds = .interface p := by cases ds <;> simp_all [kindOk]
          obtain ⟨p, rfl⟩ := this
          cases a <;> cases b' <;> simp only [nilKind, NilShape] at s1 s2
          · cases hab
          · obtain ⟨ad, n, rfl⟩ := s1; subst s2; simp [Op.equalIn, run_underlying hu]
          · obtain ⟨ad, n, rfl⟩ := s2; subst s1; simp [Op.equalIn, run_underlying hu]
          · subst s1; subst s2; simp [Op.equalIn, run_underlying hu]
        | _ => simp [nilKind, NilShape] at s1
      · cases h
    · cases h
  · cases h

end Go.Eng
end

/- The operations that neither read nor turn memory, one by one. -/
section
namespace Go.Eng
open Go Go.RowKit
variable [Inhabited Pkg]
set_option linter.unusedSectionVars false

/-- what a test of Go's gives in both forms -/
theorem eqGuard_ok {P : Program} {w : World} (op : BinOp) (t : TypeId) (x y : Operand) (v u : Value) (h1 : v = .nilIface → u = .nilIface → (isConst x || isConst y) = true)
    (h2 : ∀ a b, v = .agg a → u = .agg b → P.eqGuardType P.depth t = false) : (eqGuard op t x y v u).run P w = .ok () w := by
  cases op <;> first
    | rfl
    | (unfold eqGuard
       simp only [Bool.not_true, Bool.false_eq_true, if_false]
       split
       · have := h1 rfl rfl
         cases x <;> cases y <;> simp_all [isConst]
       · have := h2 _ _ rfl rfl
         simp [run_program, this]
       · rfl)

theorem kind_agg {P : Program} {T : Tab} (hT : TabOk P T) {t : TypeId} {k : TK} (h : kindT T t = some k) : ∃ ti i ds z, T t = some ti ∧ ti.k = k ∧ TyFacts P t ti i ds z := by
  obtain ⟨ti, hti, hk⟩ := kindT_some h
  obtain ⟨i, ds, z, f⟩ := hT.facts hti
  exact ⟨ti, i, ds, z, hti, hk, f⟩

theorem eqv_cmp {T : Tab} {n : Nat} {t : TypeId} {ti : TI} {xs ys : List AV} {b : Bool} (h : eqv T (n + 1) t xs ys = some b) (ht : T t = some ti) : ti.cmp = true := by
  simp only [eqv, ht] at h
  split at h
  · assumption
  · cases h

theorem guarded {P : Program} {c : Cx} {op : BinOp} {t : TypeId} {x y : Operand} {v u : Value} {res : AV} (g : (eqGuard op t x y v u).run P c.w = .ok () c.w) (h : RunsTo P c (binOp op t v u) res) :
    RunsTo P c (do eqGuard op t x y v u; binOp op t v u) res := by
  obtain ⟨r, h1, h2⟩ := h
  exact ⟨r, by simp only [Sem.run_bind, g, Result.andThen_ok]; exact h1, h2⟩

theorem bin_ok {P : Program} {T : Tab} {c : Cx} (hT : TabOk P T) {op : BinOp} {t : TypeId} {x y : Operand} {X Y res : AV} {v u : Value} (h : bin T op t X Y (isConst x || isConst y) = some res)
    (hx : VL c X v) (hy : VL c Y u) : RunsTo P c (do eqGuard op t x y v u; binOp op t v u) res := by
  unfold bin at h
  split at h
  · split at h
    · cases hx with | dat hx => cases hx with | int =>
      cases hy with | dat hy => cases hy with | int =>
      exact guarded (eqGuard_ok _ _ _ _ _ _ (fun e => by cases e) (fun _ _ e => by cases e)) (int_ok h)
    · cases h
  · split at h
    · cases hx with | dat hx => cases hx with | str =>
      cases hy with | dat hy => cases hy with | str =>
      exact guarded (eqGuard_ok _ _ _ _ _ _ (fun e => by cases e) (fun _ _ e => by cases e)) (str_ok h)
    · cases h
  · split at h
    · cases hx with | dat hx => cases hx with | bool =>
      cases hy with | dat hy => cases hy with | bool =>
      refine guarded (eqGuard_ok _ _ _ _ _ _ (fun e => by cases e) (fun _ _ e => by cases e)) ?_
      split at h
      · rename_i hk
        have hu := bool_kind hT hk
        split at h
        · injection h with h; subst h
          exact ⟨_, run_eql_bool _ t _ _ hu, .dat (.bool _)⟩
        · injection h with h; subst h
          refine ⟨_, ?_, .dat (.bool _)⟩
          simp only [binOp, Sem.run_bind, run_equal_bool _ t _ _ hu]
          rfl
        · cases h
      · cases h
    · cases h
  · split at h
    · rename_i xs _ ys
      split at h
      · rename_i k hk
        split at h
        · rename_i hagg
          split at h
          · rename_i b hb
            obtain ⟨ti, i, ds, z, hti, rfl, f⟩ := kind_agg hT hk
            cases hx with
            | agg hl1 h1 =>
              rename_i vs
              cases hy with
              | agg hl2 h2 =>
                rename_i us
                obtain ⟨_, r⟩ := eqv_ok (c := c) hT 6 t ti xs ys vs.toList us.toList b 9994 c.w hti hb (VL.all2 hl1 h1) (VL.all2 hl2 h2)
                simp only [hagg, valOf, if_true, Array.toArray_toList] at r
                have hcmp : ti.cmp = true := eqv_cmp (n := 5) hb hti
                obtain ⟨c1, c2, c3⟩ := f.cmp hcmp
                refine guarded (eqGuard_ok _ _ _ _ _ _ (fun e => by cases e) (fun _ _ _ _ => c2)) ?_
                split at h
                · injection h with h; subst h
                  refine ⟨_, ?_, .dat (.bool _)⟩
                  rw [run_eql_struct, r]; rfl
                · injection h with h; subst h
                  refine ⟨_, ?_, .dat (.bool _)⟩
                  rw [run_neq_struct, r]; rfl
                · cases h
          · cases h
        · cases h
      · cases h
    · cases h
  · rename_i n1 n2 n3 n4
    split at h
    · rename_i k hk
      split at h
      · rename_i hlit
        split at h
        · rename_i b hb
          have he := nilEq_ok hT hk hb hx hy c.w
          -- the values are no numbers, no strings
          have hsh : ∃ k1 a, NilShape k1 a v := by
            unfold nilEq at hb
            split at hb
            · rename_i k1 a h1
              exact ⟨k1, a, isNil_shape h1 hx⟩
            · cases hb
          obtain ⟨k1, q, s⟩ := hsh
          refine guarded (eqGuard_ok _ _ _ _ _ _ (fun _ _ => hlit) (fun a b e _ => ?_)) ?_
          · subst e
            rcases k1 with _ | _ | _ | _ | k1 <;> cases q <;> simp [NilShape] at s
          · have hbin : ∀ op, (op = .eql ∨ op = .neq) → (binOp op t v u).run P c.w = .ok (.bool (if op = .eql then b else !b)) c.w := by
              intro op hop
              rcases hop with rfl | rfl <;>
              (rcases k1 with _ | _ | _ | _ | k1 <;> cases q <;> simp only [NilShape] at s <;>
                first
                  | exact s.elim
                  | (subst s; simp [binOp, he])
                  | (obtain ⟨_, rfl⟩ := s; simp [binOp, he])
                  | (obtain ⟨_, _, rfl⟩ := s; simp [binOp, he])
                  | (obtain ⟨_, _, _, rfl⟩ := s; simp [binOp, he]))
            split at h
            · injection h with h; subst h
              exact ⟨_, hbin .eql (.inl rfl), .dat (.bool _)⟩
            · injection h with h; subst h
              exact ⟨_, hbin .neq (.inr rfl), .dat (.bool _)⟩
            · cases h
        · cases h
      · cases h
    · cases h

theorem un_ok {P : Program} {c : Cx} {op : UnOp} {X res : AV} {v : Value} (h : un op X = some res) (hx : VL c X v) : RunsTo P c (Op.unary op v) res := by
  unfold un at h
  split at h
  · cases hx with | dat hx => cases hx with | int =>
    split at h
    · injection h with h; subst h; exact ⟨_, rfl, .dat (.int _ _)⟩
    · injection h with h; subst h; exact ⟨_, rfl, .dat (.int _ _)⟩
    · cases h
  · cases hx with | dat hx => cases hx with | bool =>
    split at h
    · injection h with h; subst h; exact ⟨_, rfl, .dat (.bool _)⟩
    · cases h
  · cases h

theorem nilCheck_ok {c : Cx} {X res : AV} {v : Value} (h : nilCheck X = some res) (hx : VL c X v) : res = X ∧ ((∃ a, v = .pointer (some a)) ∨ (∃ f y, v = .func f #[] y)) := by
  unfold nilCheck at h
  split at h
  all_goals first
    | (cases h; done)
    | (injection h with h; subst h; refine ⟨rfl, ?_⟩; cases hx <;> first
        | exact .inl ⟨_, rfl⟩
        | exact .inr ⟨_, _, rfl⟩)

end Go.Eng
end

/- Fields, indexes, parts, what is built, what is cut. -/
section
namespace Go.Eng
open Go Go.RowKit
variable [Inhabited Pkg]
set_option linter.unusedSectionVars false

theorem add_off (b o n : Nat) : (⟨b, o, none⟩ : Addr).add n = ⟨b, o + n, none⟩ := by
  unfold Addr.add
  split
  · rename_i h; subst h; rfl
  · rfl

theorem fieldOff_some {P : Program} {T : Tab} (hT : TabOk P T) {t : TypeId} {f off : Nat} {ft : TypeId} (h : fieldOff T t f = some (off, ft)) :
    ∃ gs g, P.underlying t = some (.struct gs) ∧ gs[f]? = some g ∧ g.offset = off ∧ g.type = ft := by
  unfold fieldOff at h
  split at h
  · rename_i ti hti
    split at h
    · rename_i fs hfs
      obtain ⟨i, ds, z, f'⟩ := hT.facts hti
      have hk := f'.kind
      rw [hfs] at hk
      have : ∃ gs, ds = .struct gs ∧ fs = gs.toList.map fun g => (g.offset, g.type) := by
        cases ds <;> simp_all [kindOk]
      obtain ⟨gs, rfl, rfl⟩ := this
      rw [List.getElem?_map] at h
      cases hg : gs.toList[f]? with
      | none => rw [hg] at h; cases h
      | some g =>
        rw [hg] at h
        simp only [Option.map_some, Option.some.injEq, Prod.mk.injEq] at h
        exact ⟨gs, g, f'.under, by simpa using hg, h.1, h.2⟩
    · cases h
  · cases h

/-- part of cells, related -/
theorem partOf_ok {P : Program} {T : Tab} {c : Cx} (hT : TabOk P T) {t : TypeId} {ti : TI} {cs : List AV} {vs : Array Value} {off : Nat} {res : AV} {w : World} (ht : T t = some ti) (hl : off + ti.size ≤ cs.length)
    (h : partOf T t cs off = some res) (hv : All2 (VL c) cs vs.toList) : ∃ v, (part t vs off).run P w = .ok v w ∧ VL c res v := by
  obtain ⟨i, ds, z, f⟩ := hT.facts ht
  have hlen := hv.length
  simp only [partOf, ht] at h
  unfold part
  simp only [Sem.run_bind, f.isAgg, Result.andThen_ok]
  cases hk : ti.k.isAgg with
  | true =>
    simp only [hk, if_true, Option.some.injEq] at h
    subst h
    refine ⟨.agg (vs.extract off (off + ti.size)), by simp [f.sizeOf], ?_⟩
    have := VL.aggL ((hv.drop off).take ti.size)
    have e : ((vs.toList.drop off).take ti.size).toArray = vs.extract off (off + ti.size) := by
      apply Array.ext'
      simp [Array.toList_extract, List.extract, List.take_drop]
    rw [e] at this
    exact this
  | false =>
    simp only [hk, Bool.false_eq_true, if_false] at h
    obtain ⟨v, h1, h2⟩ := hv.get off res h
    have : vs[off]? = some v := by simpa using h1
    exact ⟨v, by simp [this], h2⟩

theorem field_ok {P : Program} {T : Tab} {c : Cx} (hT : TabOk P T) {t : TypeId} {f : Nat} {X res : AV} {v : Value} (h : field T t X f = some res) (hx : VL c X v) : RunsTo P c (Instr.field t v f) res := by
  unfold field at h
  split at h
  · split at h
    · rename_i off ft hf
      split at h
      · rename_i ti hti
        split at h
        · rename_i hl
          obtain ⟨gs, g, h1, h2, rfl, rfl⟩ := fieldOff_some hT hf
          cases hx with
          | agg hl1 hh =>
            obtain ⟨r, h3, h4⟩ := partOf_ok (w := c.w) hT hti hl h (VL.all2 hl1 hh)
            exact ⟨r, by simp [Instr.field, run_underlying h1, h2, asAgg, h3], h4⟩
        · cases h
      · cases h
    · cases h
  · cases h

theorem fieldAddr_ok {P : Program} {T : Tab} {c : Cx} (hT : TabOk P T) {t : TypeId} {f : Nat} {X res : AV} {v : Value} (h : fieldAddr T t X f = some res) (hx : VL c X v) : RunsTo P c (Instr.fieldAt t v f) res := by
  unfold fieldAddr at h
  split at h
  · rename_i off ft hf
    split at h
    · rename_i ti hti
      split at h
      · cases h
      · rename_i hz
        obtain ⟨gs, g, h1, h2, rfl, rfl⟩ := fieldOff_some hT hf
        obtain ⟨i, ds, z, f'⟩ := hT.facts hti
        have key : ∀ b o, (Instr.fieldAt t (.pointer (some ⟨b, o, none⟩)) f).run P c.w = .ok (.pointer (some ⟨b, o + g.offset, none⟩)) c.w := by
          intro b o
          simp [Instr.fieldAt, run_underlying h1, h2, Instr.sureAddr, fieldPlace, f'.sizeOf, hz, add_off]
        split at h
        · injection h with h; subst h
          cases hx with
          | ptrl hb => exact ⟨_, key _ _, .ptrl hb⟩
          | ptrg hb => exact ⟨_, key _ _, .ptrg hb⟩
        · injection h with h; subst h
          cases hx with
          | ept hb => exact ⟨_, by rw [key, Nat.add_assoc], .ept hb⟩
        · injection h with h; subst h
          cases hx with
          | gept he hh =>
            refine ⟨_, key _ _, .gept he fun e => ?_⟩
            obtain ⟨bo, l0, c0, q1, q2, q3⟩ := hh e
            exact ⟨bo, l0, c0, q1, q2, by omega⟩
        · injection h with h; subst h
          cases hx with
          | dpt hr => exact ⟨_, by rw [key, Nat.add_assoc, Nat.add_assoc], .dpt hr⟩
        · cases h
    · cases h
  · cases h

theorem kindT_under {P : Program} {T : Tab} (hT : TabOk P T) {t : TypeId} {k : TK} (h : kindT T t = some k) : ∃ d, P.underlying t = some d ∧ kindOk k d = true := by
  obtain ⟨ti, i, ds, z, hti, hk, f⟩ := kind_agg hT h
  have := f.kind
  rw [hk] at this
  exact ⟨ds, f.under, this⟩

theorem kindT_slice {P : Program} {T : Tab} (hT : TabOk P T) {t e : TypeId} (h : kindT T t = some (.slice e)) : P.underlying t = some (.slice e) := by
  obtain ⟨d, h1, h2⟩ := kindT_under hT h
  cases d <;> simp_all [kindOk]

theorem kindT_arr {P : Program} {T : Tab} (hT : TabOk P T) {t e : TypeId} {n : Nat} (h : kindT T t = some (.arr n e)) : P.underlying t = some (.array n e) := by
  obtain ⟨d, h1, h2⟩ := kindT_under hT h
  cases d <;> simp_all [kindOk]

theorem kindT_str {P : Program} {T : Tab} (hT : TabOk P T) {t : TypeId} (h : kindT T t = some .str) : P.underlying t = some .string := by
  obtain ⟨d, h1, h2⟩ := kindT_under hT h
  cases d <;> simp_all [kindOk]

theorem kindT_int {P : Program} {T : Tab} (hT : TabOk P T) {t : TypeId} {k : IntKind} (h : kindT T t = some (.int k)) : P.underlying t = some (.int k) := by
  obtain ⟨d, h1, h2⟩ := kindT_under hT h
  cases d <;> simp_all [kindOk]

theorem sizeT_run {P : Program} {T : Tab} (hT : TabOk P T) {t : TypeId} {n : Nat} (h : sizeT T t = some n) (w : World) : (sizeOf t).run P w = .ok n w := by
  obtain ⟨ti, hti, hs⟩ := sizeT_some h
  obtain ⟨i, ds, z, f⟩ := hT.facts hti
  rw [← hs]; exact f.sizeOf

theorem index_ok {P : Program} {T : Tab} {c : Cx} (hT : TabOk P T) {t : TypeId} {X I res : AV} {v u : Value} (h : index T t X I = some res) (hx : VL c X v) (hi : VL c I u) : RunsTo P c (Instr.index t v u) res := by
  unfold index at h
  split at h
  · rename_i k n
    cases hi with | dat hi => cases hi with | int =>
    split at h
    · cases hx with | dat hx => cases hx with | str =>
      split at h
      · rename_i hk
        have hu := kindT_str hT hk
        split at h
        · rename_i h0
          split at h
          · rename_i b hb
            injection h with h; subst h
            exact ⟨_, by simp [Instr.index, asIntOf, run_underlying hu, h0, hb], .dat (.int _ _)⟩
          · cases h
        · cases h
      · cases h
    · split at h
      · rename_i len e hk
        have hu := kindT_arr hT hk
        split at h
        · rename_i ti hti
          obtain ⟨i, ds, z, f⟩ := hT.facts hti
          split at h
          · rename_i h0
            split at h
            · rename_i hl
              cases hx with
              | agg hl1 hh =>
                obtain ⟨r, h3, h4⟩ := partOf_ok (w := c.w) hT hti hl h (VL.all2 hl1 hh)
                exact ⟨r, by simp [Instr.index, asIntOf, run_underlying hu, h0, f.sizeOf, h3], h4⟩
            · cases h
          · cases h
        · cases h
      · cases h
    · cases h
  · cases h

theorem indexAddr_ok {P : Program} {T : Tab} {c : Cx} (hT : TabOk P T) {t : TypeId} {X I res : AV} {v u : Value} (h : indexAddr T t X I = some res) (hx : VL c X v) (hi : VL c I u) : RunsTo P c (Instr.indexAt t v u) res := by
  unfold indexAddr at h
  split at h
  · rename_i k n
    cases hi with | dat hi => cases hi with | int =>
    split at h
    · rename_i len e hk
      have hu := kindT_arr hT hk
      split at h
      · rename_i sz hsz
        have key : ∀ b o, 0 ≤ n → n < len → (Instr.indexAt t (.pointer (some ⟨b, o, none⟩)) (.int k n)).run P c.w = .ok (.pointer (some ⟨b, o + n.toNat * sz, none⟩)) c.w := by
          intro b o h1 h2
          simp [Instr.indexAt, asIntOf, run_underlying hu, Instr.sureAddr, sizeT_run hT hsz, h1, h2, add_off]
        split at h
        · split at h
          · rename_i h0
            injection h with h; subst h
            cases hx with
            | ptrl hb => exact ⟨_, key _ _ h0.1 h0.2, .ptrl hb⟩
            | ptrg hb => exact ⟨_, key _ _ h0.1 h0.2, .ptrg hb⟩
          · cases h
        · split at h
          · rename_i h0
            injection h with h; subst h
            cases hx with
            | ept hb => exact ⟨_, by rw [key _ _ h0.1 h0.2, Nat.add_assoc], .ept hb⟩
          · cases h
        · split at h
          · rename_i h0
            injection h with h; subst h
            cases hx with
            | gept he hh =>
              refine ⟨_, key _ _ h0.1 h0.2, .gept he fun e => ?_⟩
              obtain ⟨bo, l0, c0, q1, q2, q3⟩ := hh e
              exact ⟨bo, l0, c0, q1, q2, by omega⟩
          · cases h
        · split at h
          · rename_i h0
            injection h with h; subst h
            cases hx with
            | dpt hr => exact ⟨_, by rw [key _ _ h0.1 h0.2, Nat.add_assoc, Nat.add_assoc], .dpt hr⟩
          · cases h
        · cases h
      · cases h
    · rename_i e hk
      have hu := kindT_slice hT hk
      split at h
      · rename_i sz hsz
        have key : ∀ b o len cap, 0 ≤ n → n < (len : Nat) → (Instr.indexAt t (.slice (some ⟨b, o, none⟩) len cap) (.int k n)).run P c.w = .ok (.pointer (some ⟨b, o + n.toNat * sz, none⟩)) c.w := by
          intro b o len cap h1 h2
          simp [Instr.indexAt, asIntOf, run_underlying hu, sizeT_run hT hsz, h1, h2, add_off]
        split at h
        · split at h
          · rename_i hsz'
            subst hsz'
            split at h
            · rename_i h0
              injection h with h; subst h
              cases hx with
              | sh hb hl hsl =>
                obtain ⟨ad, cap, ty, m, rfl, q1, q2, q3, q4, q5, q6⟩ := hsl
                rcases q6 with rfl | ⟨rfl, _⟩
                · refine ⟨_, key _ _ _ _ h0.1 h0.2, ?_⟩
                  have e1 : ∀ (a b s : Nat), a * s + b * s = (a + b) * s + 0 := fun a b s => by rw [Nat.add_mul, Nat.add_zero]
                  rw [e1]
                  exact .ept hb
                · exfalso; omega
            · cases h
          · cases h
        · split at h
          · rename_i hsz'
            subst hsz'
            split at h
            · rename_i h0
              injection h with h; subst h
              cases hx with
              | gh _ _ _ he hh =>
                refine ⟨_, key _ _ _ _ h0.1 h0.2, .gept he fun e => ?_⟩
                obtain ⟨bo, b, l0, c0, z1, z2, z3, hsl⟩ := hh e
                obtain ⟨ad, cap, ty, m, q0, q1, q2, q3, q4, q5, q6⟩ := hsl
                injection q0 with q0 _ q0'
                injection q0 with q0
                subst q0
                rcases q6 with q6 | ⟨rfl, _⟩
                · injection q6 with q6 q7
                  subst q6
                  subst q7
                  exact ⟨bo, l0, c0, z1, z2, by rw [Nat.add_mul, Nat.add_zero]⟩
                · exfalso; omega
            · cases h
          · cases h
        · split at h
          · rename_i hsz'
            subst hsz'
            split at h
            · rename_i h0
              injection h with h; subst h
              cases hx with
              | dat hd =>
                have hd0 := hd
                cases hd with
                | nil => exfalso; simp at h0; omega
                | void sz0 ad hk => exfalso; simp at h0; omega
                | list vs2 a1 a2 a3 a4 a5 a6 a7 a8 =>
                  exact ⟨_, key _ _ _ _ h0.1 h0.2, .dpt hd0.any⟩
            · cases h
          · cases h
        · cases h
      · cases h
    · cases h
  · cases h

theorem extract_ok {P : Program} {c : Cx} {X res : AV} {v : Value} {i : Nat} (h : extract X i = some res) (hx : VL c X v) : RunsTo P c (Instr.extract v i) res := by
  unfold extract at h
  split at h
  · cases hx with
    | tup hl hh =>
      rename_i vs us
      have hi := (List.getElem?_eq_some_iff.1 h).1
      have : us[i]? = some us[i] := by simp
      exact ⟨us[i], by simp [Instr.extract, this], hh i res h _ this⟩
  · cases h

theorem pick_ok {P : Program} {c : Cx} {X Y Z res : AV} {v u x : Value} (h : pick X Y Z = some res) (hx : VL c X v) (hy : VL c Y u) (hz : VL c Z x) :
    ∃ b, v = .bool b ∧ VL c res (if b then u else x) := by
  unfold pick at h
  split at h
  · injection h with h; subst h
    cases hx with | dat hx => cases hx with | bool => exact ⟨true, rfl, hy⟩
  · injection h with h; subst h
    cases hx with | dat hx => cases hx with | bool => exact ⟨false, rfl, hz⟩
  · cases h

end Go.Eng
end

/- What is cut, counted, built. -/
section
namespace Go.Eng
open Go Go.RowKit
variable [Inhabited Pkg]
set_option linter.unusedSectionVars false

/-- an operand that may lack -/
def OptVL (c : Cx) : Option AV → Option Value → Prop
  | none, none => True
  | some a, some v => VL c a v
  | _, _ => False

theorem optInt_some {c : Cx} {d n : Int} {a : Option AV} {v : Option Value} (h : optInt d a = some n) (hv : OptVL c a v) : (a = none ∧ v = none ∧ n = d) ∨ ∃ k, v = some (.int k n) ∧ a.isSome = true := by
  unfold optInt at h
  split at h
  · injection h with h
    cases v with
    | none => exact .inl ⟨rfl, rfl, h.symm⟩
    | some v => exact hv.elim
  · injection h with h
    subst h
    cases v with
    | none => exact hv.elim
    | some v =>
      have hv' : VL c _ v := hv
      cases hv' with | dat hd => cases hd with | int => exact .inr ⟨_, rfl, rfl⟩
  · cases h

theorem sliceBound_ok {P : Program} {w : World} (k : IntKind) (n : Int) (y : Nat) (code : BoundsCode) (h0 : 0 ≤ n) (h1 : n ≤ y) : (Instr.sliceBound (.int k n) y code).run P w = .ok n.toNat w := by
  simp [Instr.sliceBound, asIntOf, h0, h1]

/-- the bounds of a slice expression with no third index -/
theorem bounds2_ok {P : Program} {c : Cx} {w : World} {lo hi : Option AV} {vl vh : Option Value} {l h : Int} (isS : Bool) (len cap : Nat) (hl : optInt 0 lo = some l) (hh : optInt len hi = some h)
    (v1 : OptVL c lo vl) (v2 : OptVL c hi vh) (h0 : 0 ≤ l) (h1 : l ≤ h) (h2 : h ≤ len) (h3 : len ≤ cap) :
    (Instr.sliceBounds isS len cap vl vh none).run P w = .ok (l.toNat, h.toNat, cap) w := by
  rcases optInt_some hh v2 with ⟨_, rfl, rfl⟩ | ⟨k, rfl, _⟩ <;> rcases optInt_some hl v1 with ⟨_, rfl, rfl⟩ | ⟨k', rfl, _⟩
  · simp [Instr.sliceBounds]
  · simp [Instr.sliceBounds, sliceBound_ok k' l len _ h0 h1]
  · simp [Instr.sliceBounds, sliceBound_ok k h cap _ (by omega) (by omega)]
  · simp [Instr.sliceBounds, sliceBound_ok k h cap _ (by omega) (by omega), sliceBound_ok k' l h.toNat _ h0 (by omega)]

theorem bounds3_ok {P : Program} {c : Cx} {w : World} {lo hi : Option AV} {vl vh : Option Value} {l h m : Int} {k : IntKind} (len cap : Nat) (hl : optInt 0 lo = some l) (hh : optInt len hi = some h)
    (v1 : OptVL c lo vl) (v2 : OptVL c hi vh) (h0 : 0 ≤ l) (h1 : l ≤ h) (h2 : h ≤ len) (h3 : len ≤ cap) (hm : m = h) (hs : hi.isSome = true) :
    (Instr.sliceBounds true len cap vl vh (some (.int k m))).run P w = .ok (l.toNat, h.toNat, h.toNat) w := by
  subst hm
  rcases optInt_some hh v2 with ⟨rfl, _, _⟩ | ⟨k2, rfl, _⟩
  · cases hs
  · rcases optInt_some hl v1 with ⟨_, rfl, rfl⟩ | ⟨k', rfl, _⟩
    · simp [Instr.sliceBounds, sliceBound_ok k m cap _ (by omega) (by omega), sliceBound_ok k2 m m.toNat _ (by omega) (by omega)]
    · simp [Instr.sliceBounds, sliceBound_ok k m cap _ (by omega) (by omega), sliceBound_ok k2 m m.toNat _ (by omega) (by omega), sliceBound_ok k' l m.toNat _ h0 (by omega)]

/-- a slice's value cut once more -/
def cutV (v : Value) (sz l h m : Nat) : Value :=
  match v with
  | .slice a _ _ => .slice (if m = l then a else a.map (·.add (l * sz))) (h - l) (m - l)
  | v => v

theorem SliceAt.cut {w : World} {f f' : Bool} {b sz off len : Nat} {v : Value} (hs : SliceAt w f b sz off len v) {l h m : Nat} (h0 : l ≤ h) (h1 : h ≤ len) (hm : ∃ a cap, v = .slice a len cap ∧ h ≤ m ∧ m ≤ cap)
    (hf : f' = true → m = h) : SliceAt w f' b sz (off + l) (h - l) (cutV v sz l h m) := by
  obtain ⟨ad, cap, ty, n, rfl, q1, q2, q3, q4, q5, q6⟩ := hs
  obtain ⟨a, cap', e, h2, h3⟩ := hm
  injection e with e1 e2 e3
  subst e1
  subst e3
  have hmul : (off + l + (m - l)) * sz ≤ (off + cap) * sz := Nat.mul_le_mul_right _ (by omega)
  by_cases hml : m = l
  · refine ⟨ad, m - l, ty, n, by simp [cutV, hml], q1, by omega, by omega, by omega, fun hft => by have := hf hft; omega, ?_⟩
    by_cases hl : l = 0
    · subst hl
      rcases q6 with rfl | ⟨r1, r2, r3, r4⟩
      · left; simp
      · right; exact ⟨by omega, by omega, by omega, r4⟩
    · right
      refine ⟨by omega, by omega, by omega, ?_⟩
      rcases q6 with rfl | ⟨_, _, _, r⟩
      · rfl
      · exact r
  · rcases q6 with rfl | ⟨r1, r2, r3, r4⟩
    · refine ⟨⟨b, (off + l) * sz, none⟩, m - l, ty, n, ?_, q1, by omega, by omega, by omega, fun hft => by have := hf hft; omega, .inl rfl⟩
      simp only [cutV, if_neg hml, Option.map_some, add_off]
      rw [Nat.add_mul]
    · exfalso; omega

theorem slice_run {P : Program} {T : Tab} (hT : TabOk P T) {t e : TypeId} {sz : Nat} (hu : P.underlying t = some (.slice e)) (hsz : sizeT T e = some sz) (w : World) {a : Option Addr} {len cap l h m : Nat} {vl vh vm : Option Value}
    (hb : (Instr.sliceBounds true len cap vl vh vm).run P w = .ok (l, h, m) w) : (Instr.sliceAt t (.slice a len cap) vl vh vm).run P w = .ok (cutV (.slice a len cap) sz l h m) w := by
  simp [Instr.sliceAt, run_underlying hu, Instr.slice, hb, sizeT_run hT hsz, cutV]

theorem RD.len {w : World} {lv : Nat → Nat} {n : LK} {sz : Nat} {xs : Row} {v : Value} (h : RD w lv (.list n sz xs) v) : ∃ a cap, v = .slice a xs.length cap ∧ xs.length ≤ cap := by
  cases h with
  | nil => exact ⟨_, _, rfl, Nat.le_refl _⟩
  | void sz a hk => exact ⟨_, _, rfl, Nat.le_refl _⟩
  | list vs a1 a2 a3 a4 a5 a6 a7 a8 => exact ⟨_, _, rfl, a2⟩

theorem slice_ok {P : Program} {T : Tab} {c : Cx} (hT : TabOk P T) {t : TypeId} {X : AV} {lo hi mx : Option AV} {res : AV} {v : Value} {vl vh vm : Option Value} (h : slice T t X lo hi mx = some res) (hx : VL c X v)
    (v1 : OptVL c lo vl) (v2 : OptVL c hi vh) (v3 : OptVL c mx vm) : RunsTo P c (Instr.sliceAt t v vl vh vm) res := by
  unfold slice at h
  split at h
  · rename_i hk
    have hu := kindT_str hT hk
    split at h
    · cases hx with | dat hx => cases hx with | str =>
      split at h
      · have : vm = none := by cases vm with | none => rfl | some _ => exact v3.elim
        subst this
        split at h
        · rename_i l h' hl hh
          split at h
          · rename_i h0
            injection h with h; subst h
            have hb := bounds2_ok (P := P) (w := c.w) false _ _ hl hh v1 v2 h0.1 h0.2.1 h0.2.2 (Nat.le_refl _)
            exact ⟨_, by simp [Instr.sliceAt, run_underlying hu, Instr.slice, hb], .dat (.str _)⟩
          · cases h
        · cases h
      · cases h
    · cases h
  · rename_i e hk
    have hu := kindT_slice hT hk
    split at h
    · rename_i sz hsz
      split at h
      · rename_i n s xs
        split at h
        · rename_i l h' hl hh
          have : vm = none := by cases vm with | none => rfl | some _ => exact v3.elim
          subst this
          split at h
          · rename_i h0
            obtain ⟨h0, h1, h2, hns⟩ := h0
            injection h with h; subst h
            cases hx with
            | dat hd =>
              have hd0 := hd
              obtain ⟨a, cap, rfl, hcap⟩ := hd.len
              have hb := bounds2_ok (P := P) (w := c.w) true _ _ hl hh v1 v2 h0 h1 h2 hcap
              refine ⟨_, slice_run hT hu hsz c.w hb, .dat ?_⟩
              cases hd with
              | nil =>
                have e1 : l = 0 := by simp at h2; omega
                have e2 : h' = 0 := by simp at h2; omega
                subst e1; subst e2
                simp only [cutV, Int.toNat_zero, List.drop_zero, List.take_nil, Nat.sub_self]
                exact .nil _
              | void sz0 ad hk =>
                have e1 : l = 0 := by simp at h2; omega
                have e2 : h' = 0 := by simp at h2; omega
                subst e1; subst e2
                simp only [cutV, Int.toNat_zero, List.drop_zero, List.take_nil, Nat.sub_self, if_true]
                exact .void _ _ (by split <;> simp_all)
              | list vs a1 a2 a3 a4 a5 a6 a7 a8 =>
                rename_i b o
                have hs : s = sz := hns.resolve_left a7
                subst hs
                have hsub : l.toNat + (h'.toNat - l.toNat) ≤ xs.length := by omega
                have hk : (if n = LK.full ∧ h' < (xs.length : Int) then LK.any else n) ≠ .nil := by split <;> simp_all
                by_cases hml : cap = l.toNat
                · have e1 : h'.toNat - l.toNat = 0 := by omega
                  have e2 : cap - l.toNat = 0 := by omega
                  simp only [cutV, if_pos hml, e1, e2, List.take_zero]
                  exact .empty _ _ hk _ _ rfl
                · simp only [cutV, if_neg hml, Option.map_some, add_off]
                  refine hd0.sub hsub (by omega) (by omega) hk (fun e => ?_)
                  split at e
                  · cases e
                  · rename_i hnf
                    have := a8 e
                    have : ¬ (h' < (xs.length : Int)) := fun hlt => hnf ⟨e, hlt⟩
                    omega
          · cases h
        · rename_i l h' _ m hl hh
          split at h
          · rename_i h0
            obtain ⟨h0, h1, h2, hnn, hs, h3, h4⟩ := h0
            subst hs
            injection h with h; subst h
            cases vm with
            | none => exact v3.elim
            | some vm =>
              have v3' : VL c _ vm := v3
              cases v3' with | dat v3' => cases v3' with | int =>
              rename_i km
              cases hx with
              | dat hd =>
                have hd0 := hd
                obtain ⟨a, cap, rfl, hcap⟩ := hd.len
                have hbb := bounds3_ok (P := P) (w := c.w) (k := km) _ _ hl hh v1 v2 h0 h1 h2 hcap h3 h4
                refine ⟨_, slice_run hT hu hsz c.w hbb, .dat ?_⟩
                cases hd with
                | nil => exact absurd rfl hnn
                | void sz0 ad hk =>
                  have e1 : l = 0 := by simp at h2; omega
                  have e2 : h' = 0 := by simp at h2; omega
                  subst e1; subst e2
                  simp only [cutV, Int.toNat_zero, List.drop_zero, List.take_nil, Nat.sub_self, if_true]
                  exact .void _ _ (by simp)
                | list vs a1 a2 a3 a4 a5 a6 a7 a8 =>
                  rename_i b o
                  have hsub : l.toNat + (h'.toNat - l.toNat) ≤ xs.length := by omega
                  by_cases hml : h'.toNat = l.toNat
                  · have e1 : h'.toNat - l.toNat = 0 := by omega
                    simp only [cutV, if_pos hml, e1, List.take_zero]
                    exact .empty _ _ (by simp) _ _ rfl
                  · simp only [cutV, if_neg hml, Option.map_some, add_off]
                    exact hd0.sub hsub (by omega) (by omega) (by simp) (fun _ => rfl)
          · cases h
        · cases h
      · rename_i f r s off len
        split at h
        · rename_i hs
          subst hs
          cases hx with
          | sh hb hl hsl =>
            split at h
            · rename_i l h' hl' hh
              have : vm = none := by cases vm with | none => rfl | some _ => exact v3.elim
              subst this
              split at h
              · rename_i h0
                obtain ⟨h0, h1, h2⟩ := h0
                injection h with h; subst h
                have hsl0 := hsl
                obtain ⟨ad, cap, ty, n, rfl, q1, q2, q3, q4, q5, q6⟩ := hsl
                have hbb := bounds2_ok (P := P) (w := c.w) true _ _ hl' hh v1 v2 h0 h1 h2 q2
                refine ⟨_, slice_run hT hu hsz c.w hbb, .sh hb (by omega) (hsl0.cut (by omega) (by omega) ⟨_, _, rfl, by omega, Nat.le_refl _⟩ (fun hf => ?_))⟩
                simp only [Bool.and_eq_true, decide_eq_true_eq] at hf
                have := q5 hf.1
                omega
              · cases h
            · rename_i l h' _ m hl' hh
              split at h
              · rename_i h0
                obtain ⟨h0, h1, h2, h3, h4⟩ := h0
                injection h with h; subst h
                cases vm with
                | none => exact v3.elim
                | some vm =>
                  have v3' : VL c _ vm := v3
                  cases v3' with | dat v3' => cases v3' with | int =>
                  rename_i km
                  have hsl0 := hsl
                  obtain ⟨ad, cap, ty, n, rfl, q1, q2, q3, q4, q5, q6⟩ := hsl
                  have hbb := bounds3_ok (P := P) (w := c.w) (k := km) _ _ hl' hh v1 v2 h0 h1 h2 q2 h3 h4
                  exact ⟨_, slice_run hT hu hsz c.w hbb, .sh hb (by omega) (hsl0.cut (by omega) (by omega) ⟨_, _, rfl, by omega, by omega⟩ (fun _ => rfl))⟩
              · cases h
            · cases h
        · cases h
      · rename_i f g j e' s off len
        split at h
        · rename_i hs
          subst hs
          cases hx with
          | gh hle hmx hfl he hh0 =>
            rename_i bs os cap
            split at h
            · rename_i l h' hl' hh
              have : vm = none := by cases vm with | none => rfl | some _ => exact v3.elim
              subst this
              split at h
              · rename_i h0
                obtain ⟨h0, h1, h2⟩ := h0
                injection h with h; subst h
                have hbb := bounds2_ok (P := P) (w := c.w) true _ _ hl' hh v1 v2 h0 h1 h2 hle
                have hr := slice_run hT hu hsz c.w (a := some ⟨bs, os, none⟩) hbb
                have hv : cutV (.slice (some ⟨bs, os, none⟩) len cap) s l.toNat h'.toNat cap = .slice (some ⟨bs, if cap = l.toNat then os else os + l.toNat * s, none⟩) (h'.toNat - l.toNat) (cap - l.toNat) := by
                  by_cases hml : cap = l.toNat <;> simp [cutV, hml, add_off]
                refine ⟨_, hr, ?_⟩
                rw [hv]
                refine .gh (by omega) (by omega) (fun hf => ?_) he (fun ee => ?_)
                · simp only [Bool.and_eq_true, decide_eq_true_eq] at hf
                  have := hfl hf.1
                  omega
                · obtain ⟨bo, b, l0, c0, z1, z2, z3, hsl⟩ := hh0 ee
                  refine ⟨bo, b, l0, c0, z1, z2, by omega, ?_⟩
                  rw [← hv]
                  refine hsl.cut (by omega) (by omega) ⟨_, _, rfl, by omega, Nat.le_refl _⟩ (fun hf => ?_)
                  simp only [Bool.and_eq_true, decide_eq_true_eq] at hf
                  have := hfl hf.1
                  omega
              · cases h
            · rename_i l h' _ m hl' hh
              split at h
              · rename_i h0
                obtain ⟨h0, h1, h2, h3, h4⟩ := h0
                injection h with h; subst h
                cases vm with
                | none => exact v3.elim
                | some vm =>
                  have v3' : VL c _ vm := v3
                  cases v3' with | dat v3' => cases v3' with | int =>
                  rename_i km
                  have hbb := bounds3_ok (P := P) (w := c.w) (k := km) _ _ hl' hh v1 v2 h0 h1 h2 hle h3 h4
                  have hr := slice_run hT hu hsz c.w (a := some ⟨bs, os, none⟩) hbb
                  have hv : cutV (.slice (some ⟨bs, os, none⟩) len cap) s l.toNat h'.toNat h'.toNat = .slice (some ⟨bs, if h'.toNat = l.toNat then os else os + l.toNat * s, none⟩) (h'.toNat - l.toNat) (h'.toNat - l.toNat) := by
                    by_cases hml : h'.toNat = l.toNat <;> simp [cutV, hml, add_off]
                  refine ⟨_, hr, ?_⟩
                  rw [hv]
                  refine .gh (Nat.le_refl _) (by omega) (fun _ => rfl) he (fun ee => ?_)
                  obtain ⟨bo, b, l0, c0, z1, z2, z3, hsl⟩ := hh0 ee
                  refine ⟨bo, b, l0, c0, z1, z2, by omega, ?_⟩
                  rw [← hv]
                  exact hsl.cut (by omega) (by omega) ⟨_, _, rfl, by omega, by omega⟩ (fun _ => rfl)
              · cases h
            · cases h
        · cases h
      · cases h
    · cases h
  · cases h

end Go.Eng
end

/- What is counted, built, read out of memory. -/
section
namespace Go.Eng
open Go Go.RowKit
variable [Inhabited Pkg]
set_option linter.unusedSectionVars false

theorem isStrT_some {T : Tab} {t : TypeId} (h : isStrT T t = true) : kindT T t = some .str := by
  unfold isStrT at h
  split at h
  · assumption
  · cases h

theorem isSlT_some {T : Tab} {t : TypeId} (h : isSlT T t = true) : ∃ e, kindT T t = some (.slice e) := by
  unfold isSlT at h
  split at h
  · exact ⟨_, by assumption⟩
  · cases h

theorem lenOf_ok {P : Program} {T : Tab} {c : Cx} (hT : TabOk P T) {t ty : TypeId} {X res : AV} {v : Value} (h : lenOf T t X = some res) (hx : VL c X v) : RunsTo P c (Builtin.len_ #[t] ty #[v]) res := by
  unfold lenOf at h
  split at h
  · split at h
    · rename_i hs
      have hu := kindT_str hT (isStrT_some hs)
      injection h with h; subst h
      cases hx with | dat hx => cases hx with | str =>
      exact ⟨_, by simp [Builtin.len_, run_underlying hu, goInt], .dat (.int _ _)⟩
    · cases h
  · split at h
    · rename_i hs
      obtain ⟨e, hk⟩ := isSlT_some hs
      have hu := kindT_slice hT hk
      injection h with h; subst h
      cases hx with
      | dat hd =>
        obtain ⟨a, cap, rfl, _⟩ := hd.len
        exact ⟨_, by simp [Builtin.len_, run_underlying hu, goInt], .dat (.int _ _)⟩
    · cases h
  · split at h
    · rename_i hs
      obtain ⟨e, hk⟩ := isSlT_some hs
      have hu := kindT_slice hT hk
      injection h with h; subst h
      cases hx with
      | sh _ _ hsl =>
        obtain ⟨ad, cap, ty', n, rfl, _⟩ := hsl
        exact ⟨_, by simp [Builtin.len_, run_underlying hu, goInt], .dat (.int _ _)⟩
    · cases h
  · split at h
    · rename_i hs
      obtain ⟨e, hk⟩ := isSlT_some hs
      have hu := kindT_slice hT hk
      injection h with h; subst h
      cases hx with
      | gh => exact ⟨_, by simp [Builtin.len_, run_underlying hu, goInt], .dat (.int _ _)⟩
    · cases h
  · split at h
    · rename_i n e hk
      have hu := kindT_arr hT hk
      injection h with h; subst h
      refine ⟨_, ?_, .dat (.int _ _)⟩
      simp only [Builtin.len_, List.getElem?_toArray, List.getElem?_cons_zero, Sem.run_bind, run_underlying hu, Result.andThen_ok, goInt]
      cases v <;> rfl
    · cases h

theorem minmaxGo_ok {P : Program} {c : Cx} (mx : Bool) (k : IntKind) : ∀ (as : List AV) (vs : List Value) (a : Int) (res : AV) (w : World), minmaxGo mx k a as = some res → All2 (VL c) as vs →
    ∃ v, (vs.foldlM (if mx then Builtin.max2 else Builtin.min2) (.int k a) : Sem Value).run P w = .ok v w ∧ VL c res v
  | [], [], a, res, w, h, _ => by
    simp only [minmaxGo, Option.some.injEq] at h
    subst h
    exact ⟨_, rfl, .dat (.int _ _)⟩
  | x :: r, v :: s, a, res, w, h, hv => by
    cases x with
    | dat d =>
      cases d with
      | int k' b =>
        simp only [minmaxGo] at h
        have h1 := hv.1
        cases h1 with | dat h1 => cases h1 with | int =>
        obtain ⟨v', h2, h3⟩ := minmaxGo_ok mx k r s _ res w h hv.2
        refine ⟨v', ?_, h3⟩
        cases mx
        · simp only [Bool.false_eq_true, if_false, List.foldlM_cons, Sem.run_bind, Builtin.min2, Sem.run_pure, Result.andThen_ok] at h2 ⊢
          exact h2
        · simp only [if_true, List.foldlM_cons, Sem.run_bind, Builtin.max2, Sem.run_pure, Result.andThen_ok] at h2 ⊢
          exact h2
      | _ => simp [minmaxGo] at h
    | _ => simp [minmaxGo] at h
  | [], _ :: _, _, _, _, _, h => h.elim
  | _ :: _, [], _, _, _, _, h => h.elim

theorem minmax_ok {P : Program} {c : Cx} (mx : Bool) {as : List AV} {vs : List Value} {res : AV} {ts : Array TypeId} {ty : TypeId} (h : minmax mx as = some res) (hv : All2 (VL c) as vs) :
    RunsTo P c (if mx then Builtin.max_ ts ty vs.toArray else Builtin.min_ ts ty vs.toArray) res := by
  unfold minmax at h
  split at h
  · match vs, hv with
    | v :: s, hv =>
      have h1 := hv.1
      cases h1 with | dat h1 => cases h1 with | int =>
      obtain ⟨v', h2, h3⟩ := minmaxGo_ok (P := P) mx _ _ s _ res c.w h hv.2
      refine ⟨v', ?_, h3⟩
      cases mx
      · simpa [Builtin.min_] using h2
      · simpa [Builtin.max_] using h2
  · cases h

/-! ### building -/

theorem foldl_set_splice (off : Nat) : ∀ (ys : List Value) (k : Nat) (cs : Array Value), off + k + ys.length ≤ cs.size →
    ((ys.zipIdx k).foldl (fun cs (x : Value × Nat) => cs.setIfInBounds (off + x.2) x.1) cs).toList = splice cs.toList (off + k) ys
  | [], k, cs, h => by simp [splice]
  | y :: ys, k, cs, h => by
    simp only [List.length_cons] at h
    rw [List.zipIdx_cons, List.foldl_cons, foldl_set_splice off ys (k + 1) _ (by simp; omega)]
    simp only [splice, Array.toList_setIfInBounds, List.length_cons]
    have h1 : off + k < cs.toList.length := by simp; omega
    apply List.ext_getElem?
    intro i
    simp only [List.getElem?_append, List.getElem?_take, List.getElem?_drop, List.length_take, List.length_append, List.length_set, List.getElem?_set, List.length_cons]
    rcases Nat.lt_trichotomy i (off + k) with hi | hi | hi
    · simp only [show i < off + (k + 1) by omega, show ¬ (off + k = i) by omega, if_true, if_false]
      rw [if_pos (by omega), if_pos (by omega), if_pos (by omega), if_pos (by omega), if_pos (by omega)]
    · subst hi
      rw [if_pos (by omega), if_pos (by omega), if_pos (by omega), if_pos rfl, if_pos (by simpa using h1), if_pos (by omega), if_neg (by omega)]
      have : off + k - min (off + k) cs.toList.length = 0 := by omega
      rw [this]; rfl
    · by_cases h2 : i < off + (k + 1) + ys.length
      · rw [if_pos (by simp at h1 ⊢; omega), if_neg (by simp at h1 ⊢; omega), if_pos (by simp at h1 ⊢; omega), if_neg (by simp at h1 ⊢; omega)]
        have : i - min (off + k) cs.toList.length = (i - min (off + (k + 1)) cs.toList.length) + 1 := by simp at h1 ⊢; omega
        rw [this, List.getElem?_cons_succ]
      · rw [if_neg (by simp at h1 ⊢; omega), if_neg (by simp at h1 ⊢; omega), if_neg (by simp at h1 ⊢; omega)]
        congr 1
        simp at h1 ⊢; omega

theorem All2.splice {α β : Type} {R : α → β → Prop} {as : List α} {bs : List β} {xs : List α} {ys : List β} (h : All2 R as bs) (k : All2 R xs ys) (off : Nat) : All2 R (splice as off xs) (splice bs off ys) := by
  unfold Eng.splice
  rw [← k.length]
  exact ((h.take off).append k).append (h.drop _)

theorem VL.cells2 {c : Cx} {a : AV} {v : Value} (h : VL c a v) (hl : a.cells.all AV.leaf = true) : All2 (VL c) a.cells v.cells.toList := by
  have := h.vals
  by_cases hagg : ∃ cs, a = .agg cs
  · obtain ⟨cs, rfl⟩ := hagg
    exact this
  · have hc : a.cells = [a] := by cases a <;> first | rfl | exact absurd ⟨_, rfl⟩ hagg
    have hv : valsOf a v = [v] := by cases a <;> first | rfl | exact absurd ⟨_, rfl⟩ hagg
    rw [hc] at hl
    have h1 := (h.leaf (by simpa using hl)).1
    rw [h1, hc]
    rw [hc, hv] at this
    exact this

theorem fill_ok {c : Cx} {place place2 : Nat → Option (Nat × Nat)} (hpl2 : ∀ i x, place i = some x → place2 i = some x) : ∀ (ps : List (Nat × AV)) (qs : List (Nat × Value)) (cs cs' : List AV) (vs : Array Value), fillP place cs ps = some cs' → All2 (VL c) cs vs.toList →
    All2 (fun (p : Nat × AV) (q : Nat × Value) => p.1 = q.1 ∧ VL c p.2 q.2) ps qs → ∃ vs', Instr.fill place2 vs qs = some vs' ∧ All2 (VL c) cs' vs'.toList ∧ vs'.size = vs.size
  | [], [], cs, cs', vs, h, hv, _ => by
    simp only [fillP, Option.some.injEq] at h
    subst h
    exact ⟨vs, rfl, hv, rfl⟩
  | (i, a) :: r, (i', v) :: s, cs, cs', vs, h, hv, hp => by
    obtain ⟨⟨rfl, ha⟩, hr⟩ := hp
    simp only [fillP] at h
    split at h
    · cases h
    · rename_i off size hpl
      split at h
      · rename_i hc
        obtain ⟨h1, h2, h3⟩ := hc
        have hcells := ha.cells2 h3
        have hlen := hcells.length
        have hvl := hv.length
        simp only [Array.length_toList] at hlen hvl
        have hsp := foldl_set_splice off v.cells.toList 0 vs (by simp; omega)
        have hz : (v.cells.zipIdx.foldl (fun cs (x : Value × Nat) => cs.setIfInBounds (off + x.2) x.1) vs).toList = splice vs.toList off v.cells.toList := by
          rw [← Array.foldl_toList, Array.toList_zipIdx]
          simpa using hsp
        obtain ⟨vs', q1, q2, q3⟩ := fill_ok hpl2 r s (splice cs off a.cells) cs' (v.cells.zipIdx.foldl (fun cs (x : Value × Nat) => cs.setIfInBounds (off + x.2) x.1) vs) h (by rw [hz]; exact hv.splice hcells off) hr
        refine ⟨vs', ?_, q2, ?_⟩
        · simp only [Instr.fill, hpl2 _ _ hpl]
          rw [if_neg (by simp; omega)]
          exact q1
        · rw [q3]
          have := congrArg List.length hz
          simp only [Array.length_toList, splice, List.length_append, List.length_take, List.length_drop] at this
          rw [this]
          omega
      · cases h
  | [], _ :: _, _, _, _, _, _, h => h.elim
  | _ :: _, [], _, _, _, _, _, h => h.elim

end Go.Eng
end

/- What is built, what is read out of memory. -/
section
namespace Go.Eng
open Go Go.RowKit
variable [Inhabited Pkg]
set_option linter.unusedSectionVars false

theorem mapM_places {P : Program} {w : World} : ∀ (l : List Field), (∀ f ∈ l, ∃ j, P.info? f.type = some j) →
    (l.mapM (fun f => do pure (f.offset, ← sizeOf f.type)) : Sem (List (Nat × Nat))).run P w = .ok (l.map fun f => (f.offset, P.cellsOf f.type)) w
  | [], _ => rfl
  | f :: l, h => by
    obtain ⟨j, hj⟩ := h f (by simp)
    have ih := mapM_places (P := P) (w := w) l (fun g hg => h g (by simp [hg]))
    rw [List.mapM_cons]
    simp only [Sem.run_bind, run_sizeOf w hj, Result.andThen_ok, Sem.run_pure, ih, List.map_cons]

theorem build_ok {P : Program} {T : Tab} {c : Cx} (hT : TabOk P T) {t : TypeId} {ps : List (Nat × AV)} {qs : List (Nat × Value)} {res : AV} (h : build T t ps = some res)
    (hp : All2 (fun (p : Nat × AV) (q : Nat × Value) => p.1 = q.1 ∧ VL c p.2 q.2) ps qs) : RunsTo P c (Instr.build t qs.toArray) res := by
  unfold build at h
  split at h
  · rename_i ti hti
    obtain ⟨i, ds, z, f⟩ := hT.facts hti
    obtain ⟨hz, _⟩ := zerosOk_all2 (c := c) f.zeros
    have hk := f.kind
    split at h
    · rename_i fs hfs
      rw [hfs] at hk
      have : ∃ gs, ds = .struct gs ∧ fs = gs.toList.map fun g => (g.offset, g.type) := by
        cases ds <;> simp_all [kindOk]
      obtain ⟨gs, rfl, rfl⟩ := this
      cases hf : fillP (structPlace T (gs.toList.map fun g => (g.offset, g.type))) ti.zero ps with
      | none => rw [hf] at h; cases h
      | some cs =>
        rw [hf] at h
        simp only [Option.map_some, Option.some.injEq] at h
        subst h
        have hpl : ∀ i x, structPlace T (gs.toList.map fun g => (g.offset, g.type)) i = some x → ((gs.map fun f => (f.offset, P.cellsOf f.type))[i]?) = some x := by
          intro i x hx
          unfold structPlace at hx
          split at hx
          · rename_i off ft hg
            split at hx
            · rename_i ti' hti'
              injection hx with hx
              subst hx
              rw [List.getElem?_map] at hg
              cases hgi : gs.toList[i]? with
              | none => rw [hgi] at hg; cases hg
              | some g =>
                rw [hgi] at hg
                simp only [Option.map_some, Option.some.injEq, Prod.mk.injEq] at hg
                obtain ⟨rfl, rfl⟩ := hg
                obtain ⟨i', ds', z', f'⟩ := hT.facts hti'
                have : gs[i]? = some g := by simpa using hgi
                simp [this, Program.cellsOf, f'.info, f'.size]
            · cases hx
          · cases hx
        obtain ⟨vs', q1, q2, q3⟩ := fill_ok (place2 := fun i => (gs.map fun f => (f.offset, P.cellsOf f.type))[i]?) hpl ps qs ti.zero cs z.cells hf hz hp
        have hm : (gs.mapM (fun f => do pure (f.offset, ← sizeOf f.type)) : Sem (Array (Nat × Nat))).run P c.w = .ok (gs.map fun f => (f.offset, P.cellsOf f.type)) c.w := by
          rw [Array.mapM_eq_mapM_toList]
          simp only [Sem.run_map, mapM_places gs.toList (f.fields gs rfl), Result.andThen_ok]
          congr 1
          apply Array.ext'
          simp
        refine ⟨.agg vs', ?_, ?_⟩
        · simp only [Instr.build, Sem.run_bind, f.zeroValue, f.und, hm, Result.andThen_ok, q1, Sem.run_pure]
        · have := VL.all2' q2
          exact .agg this.1 this.2
    · rename_i n e he
      rw [he] at hk
      have : ds = .array n e := by cases ds <;> simp_all [kindOk]
      subst this
      split at h
      · rename_i sz hsz
        cases hf : fillP (fun i => some (i * sz, sz)) ti.zero ps with
        | none => rw [hf] at h; cases h
        | some cs =>
          rw [hf] at h
          simp only [Option.map_some, Option.some.injEq] at h
          subst h
          obtain ⟨vs', q1, q2, q3⟩ := fill_ok (place2 := fun i => some (i * sz, sz)) (fun _ _ h => h) ps qs ti.zero cs z.cells hf hz hp
          refine ⟨.agg vs', ?_, ?_⟩
          · simp only [Instr.build, Sem.run_bind, f.zeroValue, f.und, sizeT_run hT hsz, Result.andThen_ok, q1, Sem.run_pure]
          · have := VL.all2' q2
            exact .agg this.1 this.2
      · cases h
    · cases h
  · cases h

/-! ### reading -/

theorem loadVar_ok {P : Program} {t : TypeId} {ti : TI} {i : TypeInfo} {ds : TypeDesc} {z : Value} {w : World} (f : TyFacts P t ti i ds z) (b o : Nat) (vs : List Value) (hl : vs.length = ti.size)
    (hc : ∀ (j : Nat) (v : Value), vs[j]? = some v → w.cell? ⟨b, o + j, none⟩ = some v) (h1 : ti.k.isAgg = true ∨ vs.length = 1) : (loadVar t ⟨b, o, none⟩).run P w = .ok (valOf ti.k.isAgg vs) w := by
  unfold loadVar
  simp only [Sem.run_bind, f.isAgg, Result.andThen_ok]
  cases hk : ti.k.isAgg with
  | true =>
    have := run_loadCells_list (P := P) w ⟨b, o, none⟩ vs (fun j v hv => by rw [add_off]; exact hc j v hv)
    rw [hl] at this
    simp [f.sizeOf, this, valOf]
  | false =>
    have h1 : vs.length = 1 := by simpa [hk] using h1
    match vs, h1 with
    | [v], _ =>
      have := hc 0 v rfl
      simp only [Nat.add_zero] at this
      simp [this, valOf]

/-- the cells of an element, part of it read -/
theorem rowVal_ok {P : Program} {T : Tab} {c : Cx} (hT : TabOk P T) {t : TypeId} {ti : TI} (hti : T t = some ti) {b base off : Nat} {x : List D} {res : AV} (h : rowVal ti.k.isAgg x off ti.size = some res)
    (hc : ∀ (j : Nat) (d : D), x[j]? = some d → ∃ v, c.w.cell? ⟨b, base + j, none⟩ = some v ∧ RD c.w c.lv d v) : RunsTo P c (Instr.loadAt t (.pointer (some ⟨b, base + off, none⟩))) res := by
  obtain ⟨i, ds, z, f⟩ := hT.facts hti
  unfold rowVal at h
  split at h
  · rename_i hl
    -- the values
    have hv : ∃ vs : List Value, vs.length = ti.size ∧ (∀ (j : Nat) (v : Value), vs[j]? = some v → c.w.cell? ⟨b, base + off + j, none⟩ = some v) ∧ All2 (RD c.w c.lv) ((x.drop off).take ti.size) vs := by
      refine ⟨(List.range ti.size).map fun j => (c.w.cell? ⟨b, base + off + j, none⟩).getD default, by simp, fun j v hj => ?_, All2.of (by simp; omega) fun j d hd v hj => ?_⟩
      · rw [List.getElem?_map] at hj
        by_cases hjs : j < ti.size
        · rw [List.getElem?_range hjs] at hj
          simp only [Option.map_some, Option.some.injEq] at hj
          have hx : x[off + j]? = some x[off + j] := by simp
          obtain ⟨v', h1, h2⟩ := hc (off + j) _ hx
          have e : base + off + j = base + (off + j) := by omega
          rw [e, h1] at hj ⊢
          simpa using hj
        · rw [List.getElem?_eq_none (by simp; omega)] at hj; cases hj
      · rw [sub_get] at hd
        split at hd
        · rename_i hjs
          obtain ⟨v', h1, h2⟩ := hc (off + j) d hd
          rw [List.getElem?_map, List.getElem?_range hjs] at hj
          simp only [Option.map_some, Option.some.injEq] at hj
          have e : base + off + j = base + (off + j) := by omega
          rw [e, h1] at hj
          simp only [Option.getD_some] at hj
          rw [← hj]; exact h2
        · cases hd
    obtain ⟨vs, hlen, hcell, hall⟩ := hv
    have hrun : ∀ h1, (Instr.loadAt t (.pointer (some ⟨b, base + off, none⟩))).run P c.w = .ok (valOf ti.k.isAgg vs) c.w := fun h1 => by
      simp only [Instr.loadAt, Instr.sureAddr, Sem.run_bind, Sem.run_pure, Result.andThen_ok]
      exact loadVar_ok f b (base + off) vs hlen hcell h1
    cases hk : ti.k.isAgg with
    | true =>
      simp only [hk, if_true, Option.some.injEq] at h
      subst h
      refine ⟨_, hrun (.inl hk), ?_⟩
      simp only [hk, valOf, if_true]
      exact VL.aggL (All2.map AV.dat (fun d v h => VL.dat h) hall)
    | false =>
      simp only [hk, Bool.false_eq_true, if_false] at h
      split at h
      · rename_i d hd
        injection h with h
        subst h
        rw [hd] at hall
        match vs, hall with
        | [v], hall =>
          refine ⟨_, hrun (.inr rfl), ?_⟩
          simp only [hk, valOf, Bool.false_eq_true, if_false, List.headD_cons]
          exact .dat hall.1
      · cases h
  · cases h

theorem outCell_ok {c : Cx} {g j : Nat} {a b : AV} {v : Value} (h : outCell a = some b) (hv : CL c g j a v) : VL c b v := by
  by_cases hr : ∃ md sz xs, a = .rowc md sz xs
  · obtain ⟨md, sz, xs, rfl⟩ := hr
    obtain ⟨b', cap, rfl, hr⟩ := hv
    cases md with
    | excl => simp [outCell] at h
    | own =>
      simp only [outCell, Option.some.injEq] at h
      subst h
      exact .dat hr.rd
    | ro => exact absurd rfl hr.md
  · have h1 : outCell a = some a := by
      cases a <;> first
        | rfl
        | exact absurd ⟨_, _, _, rfl⟩ hr
    have h2 : VL c a v := by
      cases a <;> first
        | exact hv
        | exact absurd ⟨_, _, _, rfl⟩ hr
    rw [h1] at h
    injection h with h
    rw [← h]; exact h2

theorem outCells_ok {c : Cx} : ∀ (as bs : List AV) (vs : List Value), outCells as = some bs → All2 (fun a v => ∃ g j, CL c g j a v) as vs → All2 (VL c) bs vs
  | [], bs, [], h, _ => by
    simp only [outCells, Option.some.injEq] at h
    subst h; trivial
  | a :: r, bs, v :: s, h, hv => by
    simp only [outCells] at h
    split at h
    · rename_i b hb
      split at h
      · rename_i bs' hbs
        injection h with h
        subst h
        obtain ⟨g, j, hcl⟩ := hv.1
        exact ⟨outCell_ok hb hcl, outCells_ok r bs' s hbs hv.2⟩
      · cases h
    · cases h
  | [], _, _ :: _, _, h => h.elim
  | _ :: _, _, [], _, h => h.elim

theorem CL.of_vl' {c : Cx} {g j : Nat} {a : AV} {v : Value} (h : VL c a v) : CL c g j a v := by
  cases a <;> first
    | exact h
    | cases h


def CLo (c : Cx) (wh : Option (Nat × Nat)) (j : Nat) (a : AV) (v : Value) : Prop :=
  match wh with
  | some (g, _) => CL c g j a v
  | none => VL c a v

theorem asVal_ok {P : Program} {T : Tab} {c : Cx} {m : Mem} (hT : TabOk P T) {t : TypeId} {ti : TI} (hti : T t = some ti) {b off : Nat} {cs : List AV} {cur : Array Value} {res : AV} {wh : Option (Nat × Nat)}
    (hep : c.ep = m.ep) (hlen : cs.length = cur.size) (h : asVal m wh ti.k.isAgg ((cs.drop off).take ti.size) = some res) (hn : off + ti.size ≤ cs.length)
    (hcell : ∀ j, c.w.cell? ⟨b, j, none⟩ = cur[j]?)
    (hcl : ∀ (j : Nat) (a : AV), cs[j]? = some a → ∃ v, cur[j]? = some v ∧ CLo c wh j a v)
    (hwh : ∀ g j, wh = some (g, j) → j = off ∧ c.bg g = some b) :
    RunsTo P c (Instr.loadAt t (.pointer (some ⟨b, off, none⟩))) res := by
  obtain ⟨i, ds, z, f⟩ := hT.facts hti
  let vs : List Value := (cur.toList.drop off).take ti.size
  have hvl : vs.length = ti.size := by simp [vs]; omega
  have hvc : ∀ (j : Nat) (v : Value), vs[j]? = some v → c.w.cell? ⟨b, off + j, none⟩ = some v := by
    intro j v hj
    simp only [vs] at hj
    rw [sub_get] at hj
    split at hj
    · rw [hcell]; simpa using hj
    · cases hj
  have hall : All2 (fun a v => ∃ g j, CL c g j a v) ((cs.drop off).take ti.size) vs := by
    refine All2.of (by rw [hvl]; simp; omega) fun j a ha v hv => ?_
    simp only [vs] at hv
    rw [sub_get] at ha hv
    split at ha
    · rename_i hjs
      rw [if_pos hjs] at hv
      obtain ⟨v', h1, h2⟩ := hcl (off + j) a ha
      have hv' : cur[off + j]? = some v := by simpa using hv
      rw [h1] at hv'
      injection hv' with hv'
      subst hv'
      cases wh with
      | none => exact ⟨0, 0, .of_vl' h2⟩
      | some x => exact ⟨x.1, off + j, h2⟩
    · cases ha
  have hrun : ∀ h1, (Instr.loadAt t (.pointer (some ⟨b, off, none⟩))).run P c.w = .ok (valOf ti.k.isAgg vs) c.w := fun h1 => by
    simp only [Instr.loadAt, Instr.sureAddr, Sem.run_bind, Sem.run_pure, Result.andThen_ok]
    exact loadVar_ok f b off vs hvl hvc h1
  unfold asVal at h
  split at h
  · rename_i hk
    split at h
    · rename_i l hl
      injection h with h
      subst h
      refine ⟨_, hrun (.inl hk), ?_⟩
      simp only [hk, valOf, if_true]
      exact VL.aggL (outCells_ok _ _ _ hl hall)
    · cases h
  · rename_i hk
    have hk : ti.k.isAgg = false := by simpa using hk
    split at h
    · rename_i md sz xs hcs
      rw [hcs] at hall
      have h1 : ti.size = 1 := by
        have := congrArg List.length hcs
        simp at this; omega
      split at h
      · rename_i g j
        obtain ⟨rfl, hbg⟩ := hwh g j rfl
        injection h with h
        subst h
        have hj : cs[j]? = some (.rowc md sz xs) := by
          have := sub_get cs j ti.size 0
          rw [hcs, if_pos (by omega)] at this
          simpa using this.symm
        obtain ⟨v, h2, h3⟩ := hcl j _ hj
        obtain ⟨b', cap, rfl, hr⟩ := h3
        have hvs : vs = [.slice (some ⟨b', 0, none⟩) xs.length cap] := by
          have : vs[0]? = some (.slice (some ⟨b', 0, none⟩) xs.length cap) := by
            simp only [vs]; rw [sub_get, if_pos (by omega)]; simpa using h2
          have hvl1 : vs.length = 1 := by rw [hvl, h1]
          obtain ⟨x, hx⟩ := List.length_eq_one_iff.1 hvl1
          rw [hx] at this ⊢
          simpa using this
        refine ⟨_, hrun (.inr (by rw [hvl, h1])), ?_⟩
        simp only [hk, valOf, Bool.false_eq_true, if_false, hvs, List.headD_cons]
        obtain ⟨⟨cur2, ty, fz, k1, k2, k3, k4, k4'⟩, k5, k6, k7, k8, k9, k10⟩ := hr
        refine .gh k5 k6 (by simp) (by rw [hep]; exact Nat.le_refl _) (fun _ => ⟨b, b', xs.length, cap, hbg, by rw [hcell]; exact h2, by omega, ?_⟩)
        exact ⟨⟨b', 0, none⟩, cap, ty, cur2.size, rfl, shape_of k1, k5, k6, by rw [Nat.zero_add]; exact k3, by simp, .inl (by simp)⟩
      · cases h
    · rename_i a hna hcs
      injection h with h
      subst h
      rw [hcs] at hall
      have h1 : ti.size = 1 := by
        have := congrArg List.length hcs
        simp at this; omega
      match hvv : vs, hall with
      | [v], hall =>
        obtain ⟨g, j, hcl'⟩ := hall.1
        have h2 : VL c a v := by
          unfold CL at hcl'
          split at hcl'
          · exact absurd rfl (hna _ _ _)
          · exact hcl'
        have hrun' := hrun (.inr (by rw [hvl, h1]))
        refine ⟨_, hrun', ?_⟩
        simp only [hk, valOf, Bool.false_eq_true, if_false, List.headD_cons]
        exact h2
    · cases h

end Go.Eng
end
