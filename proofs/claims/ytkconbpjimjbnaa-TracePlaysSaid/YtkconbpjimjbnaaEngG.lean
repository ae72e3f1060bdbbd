/- What the machine's operations give, those that neither read nor turn memory. -/
import Derived.Test.YtkconbpjimjbnaaEngF
namespace Go.Eng
open Go Go.RowKit

/-! ### types -/

def kindOk : TK → TypeDesc → Bool
  | .bool, .bool => true
  | .int k, .int k' => k == k'
  | .str, .string => true
  | .ptr e, .pointer e' => e == e'
  | .slice e, .slice e' => e == e'
  | .arr n e, .array n' e' => n == n' && e == e'
  | .struct fs, .struct gs => fs == gs.toList.map fun f => (f.offset, f.type)
  | .func, .func _ _ _ => true
  | .iface, .interface _ => true
  | _, _ => false

def zeroOk : AV → Value → Bool
  | .dat (.bool b), .bool b' => b == b'
  | .dat (.int k n), .int k' n' => k == k' && n == n'
  | .dat (.str s), .string s' => s.data == s'.data
  | .dat (.list .nil 0 []), .slice none 0 0 => true
  | .nilp, .pointer none => true
  | .nilfn, .nilFunc => true
  | .nili, .nilIface => true
  | _, _ => false

def zerosOk : List AV → List Value → Bool
  | [], [] => true
  | a :: r, v :: s => zeroOk a v && zerosOk r s
  | _, _ => false

def tyOk (P : Program) (t : TypeId) (ti : TI) : Bool :=
  match P.info? t with
  | some i => match P.underlying t with
    | some d => kindOk ti.k d && i.size == ti.size && i.bytes == ti.bytes && (match i.zero with
      | some z => zerosOk ti.zero z.cells.toList && z.cells.size == ti.size
      | none => false) && (match d with
      | .struct fs => fs.toList.all fun f => (P.info? f.type).isSome
      | _ => true) && (!ti.cmp || (!P.stoodInHeld t && !P.eqGuardType P.depth t && (match d with
      | .struct fs => fs.toList.all fun f => f.name != "_"
      | _ => true)))
    | none => false
  | none => false

def TabOk (P : Program) (T : Tab) : Prop := ∀ t ti, T t = some ti → tyOk P t ti = true

structure TyFacts (P : Program) (t : TypeId) (ti : TI) (i : TypeInfo) (d : TypeDesc) (z : Value) : Prop where
  info : P.info? t = some i
  under : P.underlying t = some d
  kind : kindOk ti.k d = true
  size : i.size = ti.size
  bytes : i.bytes = ti.bytes
  zero : i.zero = some z
  zeros : zerosOk ti.zero z.cells.toList = true
  zsize : z.cells.size = ti.size
  fields : ∀ fs, d = .struct fs → ∀ f ∈ fs.toList, ∃ j, P.info? f.type = some j
  cmp : ti.cmp = true → P.stoodInHeld t = false ∧ P.eqGuardType P.depth t = false ∧ ∀ fs, d = .struct fs → ∀ f ∈ fs.toList, (f.name == "_") = false

theorem TabOk.facts {P : Program} {T : Tab} (h : TabOk P T) {t : TypeId} {ti : TI} (ht : T t = some ti) : ∃ i d z, TyFacts P t ti i d z := by
  have := h t ti ht
  unfold tyOk at this
  split at this
  · rename_i i hi
    split at this
    · rename_i d hd
      simp only [Bool.and_eq_true, beq_iff_eq] at this
      obtain ⟨⟨⟨⟨⟨h1, h2⟩, h3⟩, h4⟩, h6⟩, h5⟩ := this
      split at h4
      · rename_i z hz
        simp only [Bool.and_eq_true, beq_iff_eq] at h4
        refine ⟨i, d, z, hi, hd, h1, h2, h3, hz, h4.1, h4.2, fun fs hfs f hf => ?_, fun hc => ?_⟩
        · subst hfs
          have := List.all_eq_true.1 h6 f hf
          exact Option.isSome_iff_exists.1 this
        simp only [hc, Bool.not_true, Bool.false_or, Bool.and_eq_true, Bool.not_eq_true'] at h5
        refine ⟨h5.1.1, h5.1.2, fun fs hfs f hf => ?_⟩
        subst hfs
        have := List.all_eq_true.1 h5.2 f hf
        simpa using this
      · cases h4
    · cases this
  · cases this

theorem zeroOk_vl {c : Cx} {a : AV} {v : Value} (h : zeroOk a v = true) : VL c a v ∧ a.leaf = true := by
  unfold zeroOk at h
  split at h
  · simp only [beq_iff_eq] at h; subst h; exact ⟨.dat (.bool _), rfl⟩
  · simp only [Bool.and_eq_true, beq_iff_eq] at h; obtain ⟨rfl, rfl⟩ := h; exact ⟨.dat (.int _ _), rfl⟩
  · rename_i s s'
    simp only [beq_iff_eq] at h
    have : s = s' := by cases s; cases s'; simp_all
    subst this
    exact ⟨.dat (.str _), rfl⟩
  · exact ⟨.dat (.nil _), rfl⟩
  · exact ⟨.nilp, rfl⟩
  · exact ⟨.nilfn, rfl⟩
  · exact ⟨.nili, rfl⟩
  · cases h

theorem zerosOk_all2 {c : Cx} : ∀ {as : List AV} {vs : List Value}, zerosOk as vs = true → All2 (VL c) as vs ∧ as.all AV.leaf = true
  | [], [], _ => ⟨trivial, rfl⟩
  | a :: r, v :: s, h => by
    simp only [zerosOk, Bool.and_eq_true] at h
    obtain ⟨h1, h2⟩ := zeroOk_vl (c := c) h.1
    obtain ⟨h3, h4⟩ := zerosOk_all2 (c := c) h.2
    exact ⟨⟨h1, h3⟩, by simp [h2, h4]⟩
  | [], _ :: _, h => by simp [zerosOk] at h
  | _ :: _, [], h => by simp [zerosOk] at h

section
variable {P : Program} {T : Tab} {t : TypeId} {ti : TI} {i : TypeInfo} {d : TypeDesc} {z : Value} {w : World}

theorem TyFacts.sizeOf (f : TyFacts P t ti i d z) : (sizeOf t).run P w = .ok ti.size w := by
  simp [Go.sizeOf, typeInfo, f.info, f.size]

theorem TyFacts.und (f : TyFacts P t ti i d z) : (underlying t).run P w = .ok d w := run_underlying f.under w

theorem TyFacts.typeInfo (f : TyFacts P t ti i d z) : (typeInfo t).run P w = .ok i w := by simp [Go.typeInfo, f.info]

theorem TyFacts.zeroValue (f : TyFacts P t ti i d z) : (zeroValue t).run P w = .ok z w := by simp [Go.zeroValue, Go.typeInfo, f.info, f.zero]

theorem TyFacts.isAgg (f : TyFacts P t ti i d z) : (isAgg t).run P w = .ok ti.k.isAgg w := by
  have hk := f.kind
  simp only [Go.isAgg, Sem.run_bind, f.und, Result.andThen_ok]
  cases hd : d <;> cases htk : ti.k <;> simp_all [kindOk, TK.isAgg]

end

theorem kindT_some {T : Tab} {t : TypeId} {k : TK} (h : kindT T t = some k) : ∃ ti, T t = some ti ∧ ti.k = k := by
  unfold kindT at h
  split at h
  · rename_i ti ht; injection h with h; exact ⟨ti, ht, h⟩
  · cases h

theorem sizeT_some {T : Tab} {t : TypeId} {n : Nat} (h : sizeT T t = some n) : ∃ ti, T t = some ti ∧ ti.size = n := by
  unfold sizeT at h
  split at h
  · rename_i ti ht; injection h with h; exact ⟨ti, ht, h⟩
  · cases h

/-- what an operation comes to -/
def RunsTo (P : Program) (c : Cx) (s : Sem Value) (res : AV) : Prop := ∃ v, s.run P c.w = .ok v c.w ∧ VL c res v

/-! ### numbers, strings, tests -/

theorem int_ok {P : Program} {c : Cx} {op : BinOp} {k k' : IntKind} {a b : Int} {res : AV} {t : TypeId} (h : intBin op k a k' b = some res) : RunsTo P c (binOp op t (.int k a) (.int k' b)) res := by
  unfold intBin at h
  split at h
  · split at h
    · cases h
    · rename_i hb
      injection h with h; subst h
      exact ⟨_, by simp [binOp, Op.shift, hb], .dat (.int _ _)⟩
  · split at h
    · cases h
    · rename_i hb
      injection h with h; subst h
      exact ⟨_, by simp [binOp, Op.shift, hb], .dat (.int _ _)⟩
  · rename_i h1 h2
    split at h
    · cases h
    · rename_i hk
      have hk : k = k' := by simpa using hk
      subst hk
      split at h
      case h_4 =>
        split at h
        · cases h
        · rename_i hb
          injection h with h; subst h
          exact ⟨_, by simp [binOp, Op.intDiv, hb], .dat (.int _ _)⟩
      case h_5 =>
        split at h
        · cases h
        · rename_i hb
          injection h with h; subst h
          exact ⟨_, by simp [binOp, Op.intDiv, hb], .dat (.int _ _)⟩
      case h_16 => cases h
      all_goals
        injection h with h; subst h
        first
          | (refine ⟨_, ?_, .dat (.int _ _)⟩; simp only [binOp, ne_eq, not_true_eq_false, if_false, Op.intArith]; rfl)
          | (refine ⟨_, ?_, .dat (.int _ _)⟩; simp only [binOp, ne_eq, not_true_eq_false, if_false, Op.intBits]; rfl)
          | (refine ⟨_, ?_, .dat (.bool _)⟩; simp only [binOp, ne_eq, not_true_eq_false, if_false, Op.intCmp]; rfl)

theorem str_ok {P : Program} {c : Cx} {op : BinOp} {a b : ByteArray} {res : AV} {t : TypeId} (h : strBin op a b = some res) : RunsTo P c (binOp op t (.string a) (.string b)) res := by
  unfold strBin at h
  split at h
  · split at h
    · cases h
    · rename_i hb
      injection h with h; subst h
      exact ⟨_, by simp only [binOp, Op.stringOp, Sem.run_ite, Sem.run_pure, run_unsupported]; rw [if_neg hb], .dat (.str _)⟩
  all_goals first
    | cases h; done
    | (injection h with h; subst h
       refine ⟨_, ?_, .dat (.bool _)⟩
       simp only [binOp, Op.stringOp]; rfl)

end Go.Eng
