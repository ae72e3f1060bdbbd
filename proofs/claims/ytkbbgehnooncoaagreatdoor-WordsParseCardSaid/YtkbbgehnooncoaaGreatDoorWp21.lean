/- Facts for going along a tree. -/
import Derived.Test.YtkbbgehnooncoaaGreatDoorWp20
import Derived.IntWalk
section
namespace Go.Eng
open Go
variable [Inhabited Pkg]
set_option linter.unusedSectionVars false

theorem gStep {α β : Type} {o : Option β} {k : β → Option α} {x : β} {r : Option α} (h : o = some x) (h2 : k x = r) : rGet o k = r := by rw [h]; exact h2
theorem aT {α : Type} {b : Bool} {t e r : Option α} (h : b = true) (h2 : t = r) : rAsk b t e = r := by rw [h]; exact h2
theorem aF {α : Type} {b : Bool} {t e r : Option α} (h : b = false) (h2 : e = r) : rAsk b t e = r := by rw [h]; exact h2

theorem wU64 (n : Int) : IntKind.wrap .u64 n = n % 18446744073709551616 := by
  simp [IntKind.wrap, IntKind.signed, IntKind.bits]

theorem gP {α β : Type} (P : Option α → Prop) {o : Option β} {k : β → Option α} {x : β} (h : o = some x) (h2 : P (k x)) : P (rGet o k) := by rw [h]; exact h2
theorem aTP {α : Type} (P : Option α → Prop) {b : Bool} {t e : Option α} (h : b = true) (h2 : P t) : P (rAsk b t e) := by rw [h]; exact h2
theorem aFP {α : Type} (P : Option α → Prop) {b : Bool} {t e : Option α} (h : b = false) (h2 : P e) : P (rAsk b t e) := by rw [h]; exact h2

theorem pureS_eq {S : Spec} {a : List AV} {G G0 : List Ent} {r : AV} (ha : a.all nor1 = true) (h : S a [] = some (r, G0)) (hr : nor2 r = true) : pureS S a G = some (r, G) := by
  unfold pureS
  rw [if_pos ha, h]
  simp only [hr, if_true]

theorem fits_iff {k : TK} {s b n : Nat} {z : List AV} {cb : Bool} : fits (TI.mk k s b z cb) n = true ↔ n * b ≤ 140737488355328 ∧ n ≤ 9223372036854775807 := by
  simp [fits]

theorem whole_iff {off len n : Nat} : wholeB false off len n = true ↔ off = 0 ∧ len = n := by
  rw [wholeB_iff]; simp

/-! ### results of two forms -/

noncomputable def tspec2 {A B : Type} (o1 : A → AV × List Ent) (o2 : B → AV × List Ent) (o : Option (AV × List Ent)) : Tr (AV × List Ent) := .ask (fnS o1 o).isSome (tspec o1 o) (tspec o2 o)
theorem tspec2_ok {A B : Type} {o1 : A → AV × List Ent} {o2 : B → AV × List Ent} {o : Option (AV × List Ent)} {r : AV × List Ent} (h : (tspec2 o1 o2 o).run = some r) : o = some r := by
  unfold tspec2 at h
  rcases run_ask h with ⟨_, h⟩ | ⟨_, h⟩ <;> exact tspec_ok h
theorem COk.spec2 {P : Program} {f : FuncId} {S : Spec} {A B : List AV → List Ent → Type} {o1 : (a : List AV) → (G : List Ent) → A a G → AV × List Ent} {o2 : (a : List AV) → (G : List Ent) → B a G → AV × List Ent} (h : COk P f S) :
    COk P f (fun a G => (tspec2 (o1 a G) (o2 a G) (S a G)).run) := h.sub fun _ _ _ hr => tspec2_ok hr
theorem fnS_no {A : Type} {o1 : A → AV × List Ent} {o : Option (AV × List Ent)} {r : AV × List Ent} (h : o = some r) (hn : ∀ x, o1 x ≠ r) : (fnS o1 o).isSome = false := by
  cases hf : fnS o1 o with
  | none => rfl
  | some x =>
    have := fnS_ok hf
    rw [h] at this
    injection this with this
    exact absurd this.symm (hn x)

noncomputable def tlo2 {A B : Type} (T : Tab) (oo : Orc) (H : Nat → List Nat) (b : Code) (o1 : A → Ex × St) (o2 : B → Ex × St) (st : St) : Tr (Ex × St) :=
  .ask (loS T oo H b o1 (tidy (H (firstRegion b)) st)).isSome (tlo T oo H b o1 st) (tlo T oo H b o2 st)
theorem tlo2_ok {A B : Type} {T : Tab} {oo : Orc} {H : Nat → List Nat} {b : Code} {o1 : A → Ex × St} {o2 : B → Ex × St} {st : St} {r : Ex × St} (h : (tlo2 T oo H b o1 o2 st).run = some r) : ∃ K, exec T oo K H (.loop b) st = some r := by
  unfold tlo2 at h
  rcases run_ask h with ⟨_, h⟩ | ⟨_, h⟩ <;> exact tlo_ok h
theorem loS_no {A : Type} {T : Tab} {oo : Orc} {H : Nat → List Nat} {b : Code} {o1 : A → Ex × St} {s : St} {r : Ex × St} (h : LoopTo T oo H b s r) (hn : ∀ x, o1 x ≠ r) : (loS T oo H b o1 s).isSome = false := by
  cases hf : loS T oo H b o1 s with
  | none => rfl
  | some x => exact absurd ((loS_ok hf).det h) (hn x)
theorem loS_yes {A : Type} {T : Tab} {oo : Orc} {H : Nat → List Nat} {b : Code} {o1 : A → Ex × St} {s : St} {x : A} (hi : ∀ x y, o1 x = o1 y → x = y) (h : LoopTo T oo H b s (o1 x)) : (loS T oo H b o1 s).isSome = true := by rw [loS_eq hi h]; rfl
theorem fnS_yes {A : Type} {o1 : A → AV × List Ent} {o : Option (AV × List Ent)} {x : A} (hi : ∀ x y, o1 x = o1 y → x = y) (h : o = some (o1 x)) : (fnS o1 o).isSome = true := by rw [fnS_eq hi h]; rfl

/-! ### loops that count -/

/-- a loop that counts up, and ends in one way -/
theorem LoopTo.count {T : Tab} {orc : TOrc} {H : Nat → List Nat} {lo : Nat → St → Tr (Ex × St)} {b : Code} (hl : LoOk2 T orc.runs H lo b) {N : Nat} {inv : Nat → St} {ex : Ex} {s : St}
    (hs : ∀ i, i < N → (tround T orc lo H b (inv i)).run = some (.norm, inv (i + 1))) (he : (tround T orc lo H b (inv N)).run = some (ex, s)) (hn : ex ≠ .norm) : ∀ d i, i + d = N → LoopTo T orc.runs H b (inv i) (ex, s)
  | 0, i, h => by
    obtain rfl : i = N := by omega
    exact LoopTo.last (fun _ _ _ _ h => h) hl he hn
  | d + 1, i, h => LoopTo.more (fun _ _ _ _ h => h) hl (hs i (by omega)) (LoopTo.count hl hs he hn d (i + 1) (by omega))

/-- a loop that counts up while something holds -/
theorem LoopTo.all {T : Tab} {orc : TOrc} {H : Nat → List Nat} {lo : Nat → St → Tr (Ex × St)} {b : Code} (hl : LoOk2 T orc.runs H lo b) {N : Nat} {inv : Nat → St} {p : Nat → Bool} {out : Bool → Ex × St}
    (ht : ∀ i, i < N → p i = true → (tround T orc lo H b (inv i)).run = some (.norm, inv (i + 1))) (hf : ∀ i, i < N → p i = false → (tround T orc lo H b (inv i)).run = some (out false))
    (he : (tround T orc lo H b (inv N)).run = some (out true)) (hn : ∀ x, (out x).1 ≠ .norm) : ∀ d i, i + d = N → ∀ x, (x = true ↔ ∀ j, i ≤ j → j < N → p j = true) → LoopTo T orc.runs H b (inv i) (out x)
  | 0, i, h, x, hx => by
    obtain rfl : i = N := by omega
    rw [hx.2 (fun j h1 h2 => absurd h1 (by omega))]
    exact LoopTo.last (fun _ _ _ _ h => h) hl he (hn true)
  | d + 1, i, h, x, hx => by
    cases hp : p i with
    | true =>
      refine LoopTo.more (fun _ _ _ _ h => h) hl (ht i (by omega) hp) (LoopTo.all hl ht hf he hn d (i + 1) (by omega) x (hx.trans ⟨fun q j h1 h2 => q j (by omega) h2, fun q j h1 h2 => ?_⟩))
      rcases Nat.lt_or_ge i j with h3 | h3
      · exact q j h3 h2
      · obtain rfl : j = i := by omega
        exact hp
    | false =>
      have e : x = false := by
        cases x with
        | false => rfl
        | true => rw [hx.1 rfl i (Nat.le_refl _) (by omega)] at hp; cases hp
      rw [e]
      exact LoopTo.last (fun _ _ _ _ h => h) hl (hf i (by omega) hp) (hn false)

/-! ### bytes -/

theorem byteRow_eq (b : UInt8) : byteRow b = [.int .u8 b.toNat] := rfl

def bRow (l : List UInt8) : Row := l.map byteRow

@[simp] theorem bRow_length (l : List UInt8) : (bRow l).length = l.length := by simp [bRow]
theorem bRow_append (l r : List UInt8) : bRow (l ++ r) = bRow l ++ bRow r := by simp [bRow]
theorem bRow_nil : bRow [] = [] := rfl
theorem bRow_cons (b : UInt8) (l : List UInt8) : bRow (b :: l) = byteRow b :: bRow l := rfl
theorem bRow_drop (l : List UInt8) (n : Nat) : (bRow l).drop n = bRow (l.drop n) := by simp [bRow]
theorem bRow_take (l : List UInt8) (n : Nat) : (bRow l).take n = bRow (l.take n) := by simp [bRow]
theorem bRow_get {l : List UInt8} {i : Nat} (h : i < l.length) : (bRow l)[i]? = some (byteRow l[i]) := by simp [bRow, h]

theorem rowBytes_bRow : ∀ l : List UInt8, rowBytes (bRow l) = some l
  | [] => rfl
  | b :: l => by
    have := rowBytes_bRow l
    simp only [bRow, List.map_cons, byteRow] at this ⊢
    simp [rowBytes, this]

theorem ba_append (l r : List UInt8) : (⟨l.toArray⟩ : ByteArray) ++ ⟨r.toArray⟩ = ⟨(l ++ r).toArray⟩ := by
  apply ByteArray.ext
  simp

theorem ba_size (l : List UInt8) : (⟨l.toArray⟩ : ByteArray).size = l.length := by simp [ByteArray.size]

/-- a number as a byte -/
theorem byteRow_wrap (n : Int) (h : 0 ≤ n) : [D.int .u8 (IntKind.wrap .u8 n)] = byteRow (UInt8.ofNat n.toNat) := by
  rw [byteRow_eq, IntKind.wrap_u8]
  congr 2
  simp
  omega

/-! ### truths -/

def tRow (l : List Bool) : Row := l.map fun b => [D.bool b]
@[simp] theorem tRow_length (l : List Bool) : (tRow l).length = l.length := by simp [tRow]
theorem tRow_get {l : List Bool} {i : Nat} (h : i < l.length) : (tRow l)[i]? = some [D.bool l[i]] := by simp [tRow, h]

theorem eq_iff_get {α : Type} [DecidableEq α] {l r : List α} (h : l.length = r.length) : (∀ j, 0 ≤ j → j < l.length → (l[j]? == r[j]?) = true) ↔ l = r := by
  refine ⟨fun q => List.ext_getElem? fun j => ?_, fun q j _ _ => by rw [q]; simp⟩
  rcases Nat.lt_or_ge j l.length with hj | hj
  · simpa using q j (Nat.zero_le _) hj
  · rw [List.getElem?_eq_none hj, List.getElem?_eq_none (by omega)]

end Go.Eng
end

/- Loops of three forms. -/
section
namespace Go.Eng
open Go
variable [Inhabited Pkg]
set_option linter.unusedSectionVars false

noncomputable def tlo3 {A B C : Type} (T : Tab) (oo : Orc) (H : Nat → List Nat) (b : Code) (o1 : A → Ex × St) (o2 : B → Ex × St) (o3 : C → Ex × St) (st : St) : Tr (Ex × St) :=
  .ask (loS T oo H b o1 (tidy (H (firstRegion b)) st)).isSome (tlo T oo H b o1 st) (tlo2 T oo H b o2 o3 st)
theorem tlo3_ok {A B C : Type} {T : Tab} {oo : Orc} {H : Nat → List Nat} {b : Code} {o1 : A → Ex × St} {o2 : B → Ex × St} {o3 : C → Ex × St} {st : St} {r : Ex × St} (h : (tlo3 T oo H b o1 o2 o3 st).run = some r) : ∃ K, exec T oo K H (.loop b) st = some r := by
  unfold tlo3 at h
  rcases run_ask h with ⟨_, h⟩ | ⟨_, h⟩
  · exact tlo_ok h
  · exact tlo2_ok h
end Go.Eng
end
