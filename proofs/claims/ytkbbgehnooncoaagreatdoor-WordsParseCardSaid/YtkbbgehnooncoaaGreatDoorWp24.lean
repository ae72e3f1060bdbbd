/- Library functions by the shelf's contracts, as what the evaluator takes: over any program and any number. -/
import Derived.Test.YtkbbgehnooncoaaGreatDoorWp20
import Derived.Lib.Atoi
import Derived.Lib.Bytealg
import Derived.Lib.ItoaNum
import Derived.Lib.Join
import Derived.Lib.Repeat
section
namespace Go.Eng
open Go
variable [Inhabited Pkg]
set_option linter.unusedSectionVars false

/-- strings.Repeat -/
noncomputable def sRepeat : Spec := fun xs G => match xs with
  | [.dat (.str s), .dat (.int .i64 n)] => if 0 ≤ n ∧ n ≤ 9223372036854775807 ∧ s.size * n.toNat ≤ 140737488355328 then some (.dat (.str ⟨(Go.Lib.repeatL s.data.toList n.toNat).toArray⟩), G) else none
  | _ => none
theorem sRepeat_ok {P : Program} {f : FuncId} (hf : Enters P f)
    (h : ∀ (s : ByteArray) (c : Nat) (w : World), c ≤ 9223372036854775807 → s.size * c ≤ 140737488355328 → Calls P f #[.string s, .int .i64 c] w fun e w' => e = .returned (.string ⟨(Go.Lib.repeatL s.data.toList c).toArray⟩) ∧ RowKit.Below w.heap.size w w') (hlt : f < yB := by decide) : COk P f sRepeat := by
  refine COk.belowV hf (fun c xs G vs r G' hs _ hv => ?_) hlt
  unfold sRepeat at hs
  split at hs
  · rename_i s n
    split at hs
    · rename_i hc
      simp only [Option.some.injEq, Prod.mk.injEq] at hs
      obtain ⟨rfl, rfl⟩ := hs
      obtain ⟨v, u, rfl, h0, h1⟩ := args_two hv
      rw [h0.str_inv, h1.int_inv]
      have := h s n.toNat c.w (by omega) hc.2.2
      rw [show ((n.toNat : Nat) : Int) = n from Int.toNat_of_nonneg hc.1] at this
      exact ⟨rfl, rfl, fun _ _ _ => (by simp), _, fun _ => .dat (.str _), this⟩
    · cases hs
  · cases hs

/-- strings.Count and stringslite.Index, of a text of one byte -/
noncomputable def sCount1 : Spec := fun xs G => match xs with
  | [.dat (.str s), .dat (.str t)] => match t.data.toList with
    | [b] => some (.dat (.int .i64 (Go.Lib.countByte s.data.toList b)), G)
    | _ => none
  | _ => none
theorem one_byte {t : ByteArray} {b : UInt8} (h : t.data.toList = [b]) : t = ⟨#[b]⟩ := by
  obtain ⟨⟨l⟩⟩ := t
  simp only at h
  subst h
  rfl
theorem sCount1_ok {P : Program} {f : FuncId} (hf : Enters P f)
    (h : ∀ (s : ByteArray) (b : UInt8) (w : World), Calls P f #[.string s, .string ⟨#[b]⟩] w fun e w' => e = .returned (.int .i64 (Go.Lib.countByte s.data.toList b)) ∧ w' = w) (hlt : f < yB := by decide) : COk P f sCount1 := by
  refine COk.belowV hf (fun c xs G vs r G' hs _ hv => ?_) hlt
  unfold sCount1 at hs
  split at hs
  · rename_i s t
    split at hs
    · rename_i b hb
      simp only [Option.some.injEq, Prod.mk.injEq] at hs
      obtain ⟨rfl, rfl⟩ := hs
      obtain ⟨v, u, rfl, h0, h1⟩ := args_two hv
      rw [h0.str_inv, h1.str_inv, one_byte hb]
      exact ⟨rfl, rfl, fun _ _ _ => (by simp), _, fun _ => .dat (.int _ _), (h s b c.w).mono fun e w' q => ⟨q.1, q.2 ▸ RowKit.Below.refl _ _⟩⟩
    · cases hs
  · cases hs

noncomputable def sIndex1 : Spec := fun xs G => match xs with
  | [.dat (.str s), .dat (.str t)] => match t.data.toList with
    | [b] => some (.dat (.int .i64 (Go.Lib.indexByte s.data.toList b)), G)
    | _ => none
  | _ => none
theorem sIndex1_ok {P : Program} {f : FuncId} (hf : Enters P f)
    (h : ∀ (s : ByteArray) (b : UInt8) (w : World), Calls P f #[.string s, .string ⟨#[b]⟩] w fun e w' => e = .returned (.int .i64 (Go.Lib.indexByte s.data.toList b)) ∧ w' = w) (hlt : f < yB := by decide) : COk P f sIndex1 := by
  refine COk.belowV hf (fun c xs G vs r G' hs _ hv => ?_) hlt
  unfold sIndex1 at hs
  split at hs
  · rename_i s t
    split at hs
    · rename_i b hb
      simp only [Option.some.injEq, Prod.mk.injEq] at hs
      obtain ⟨rfl, rfl⟩ := hs
      obtain ⟨v, u, rfl, h0, h1⟩ := args_two hv
      rw [h0.str_inv, h1.str_inv, one_byte hb]
      exact ⟨rfl, rfl, fun _ _ _ => (by simp), _, fun _ => .dat (.int _ _), (h s b c.w).mono fun e w' q => ⟨q.1, q.2 ▸ RowKit.Below.refl _ _⟩⟩
    · cases hs
  · cases hs

/-- strings.IndexByte -/
noncomputable def sIndexByte : Spec := fun xs G => match xs with
  | [.dat (.str s), .dat (.int .u8 b)] => some (.dat (.int .i64 (Go.Lib.indexByte s.data.toList b.toNat.toUInt8)), G)
  | _ => none
theorem sIndexByte_ok {P : Program} {f : FuncId} (hf : Enters P f)
    (h : ∀ (s : ByteArray) (b : Int) (w : World), Calls P f #[.string s, .int .u8 b] w fun e w' => e = .returned (.int .i64 (Go.Lib.indexByte s.data.toList b.toNat.toUInt8)) ∧ w' = w) (hlt : f < yB := by decide) : COk P f sIndexByte := by
  refine COk.belowV hf (fun c xs G vs r G' hs _ hv => ?_) hlt
  unfold sIndexByte at hs
  split at hs
  · rename_i s b
    simp only [Option.some.injEq, Prod.mk.injEq] at hs
    obtain ⟨rfl, rfl⟩ := hs
    obtain ⟨v, u, rfl, h0, h1⟩ := args_two hv
    rw [h0.str_inv, h1.int_inv]
    exact ⟨rfl, rfl, fun _ _ _ => (by simp), _, fun _ => .dat (.int _ _), (h s b c.w).mono fun e w' q => ⟨q.1, q.2 ▸ RowKit.Below.refl _ _⟩⟩
  · cases hs

/-- strconv.Itoa, of a number of at most two digits -/
noncomputable def sItoa : Spec := fun xs G => match xs with
  | [.dat (.int .i64 n)] => if 0 ≤ n ∧ n < 100 then some (.dat (.str ⟨(Go.Lib.decDigits n.toNat).toArray⟩), G) else none
  | _ => none
theorem sItoa_ok {P : Program} {f : FuncId} (hf : Enters P f)
    (h : ∀ (i : Nat), i < 100 → ∀ (w : World), Calls P f #[.int .i64 i] w fun e w' => e = .returned (.string ⟨(Go.Lib.decDigits i).toArray⟩) ∧ w' = w) (hlt : f < yB := by decide) : COk P f sItoa := by
  refine COk.belowV hf (fun c xs G vs r G' hs _ hv => ?_) hlt
  unfold sItoa at hs
  split at hs
  · rename_i n
    split at hs
    · rename_i hc
      simp only [Option.some.injEq, Prod.mk.injEq] at hs
      obtain ⟨rfl, rfl⟩ := hs
      obtain ⟨v, rfl, h0⟩ := args_one hv
      rw [h0.int_inv]
      have := h n.toNat (by omega) c.w
      rw [show ((n.toNat : Nat) : Int) = n from Int.toNat_of_nonneg hc.1] at this
      exact ⟨rfl, rfl, fun _ _ _ => (by simp), _, fun _ => .dat (.str _), this.mono fun e w' q => ⟨q.1, q.2 ▸ RowKit.Below.refl _ _⟩⟩
    · cases hs
  · cases hs

/-- strconv.Atoi, of a numeral -/
noncomputable def sAtoi : Spec := fun xs G => match xs with
  | [.dat (.str s)] => if s.size ≤ 18 then match Go.Lib.atoi s.data.toList with
    | some n => some (.tup [.dat (.int .i64 n), .nili], G)
    | none => none
    else none
  | _ => none
theorem sAtoi_ok {P : Program} {f : FuncId} (hf : Enters P f)
    (h : ∀ (s : ByteArray) (n : Int), s.size ≤ 18 → Go.Lib.atoi s.data.toList = some n → ∀ (w : World), Calls P f #[.string s] w fun e w' => e = .returned (.tuple #[.int .i64 n, .nilIface]) ∧ RowKit.Below w.heap.size w w') (hlt : f < yB := by decide) : COk P f sAtoi := by
  refine COk.belowV hf (fun c xs G vs r G' hs _ hv => ?_) hlt
  unfold sAtoi at hs
  split at hs
  · rename_i s
    split at hs
    · rename_i hc
      split at hs
      · rename_i n hn
        simp only [Option.some.injEq, Prod.mk.injEq] at hs
        obtain ⟨rfl, rfl⟩ := hs
        obtain ⟨v, rfl, h0⟩ := args_one hv
        rw [h0.str_inv]
        refine ⟨rfl, rfl, fun _ _ _ => (by simp), _, fun _ => .tup (vs := #[.int .i64 n, .nilIface]) rfl (fun j a ha v hv => ?_), h s n hc hn c.w⟩
        match j, ha, hv with
        | 0, ha, hv =>
          simp at ha hv
          subst ha hv
          exact .dat (.int _ _)
        | 1, ha, hv =>
          simp at ha hv
          subst ha hv
          exact .nili
        | j + 2, ha, _ => simp at ha
      · cases hs
    · cases hs
  · cases hs

/-- the texts of a row -/
def rowStrs : Row → Option (List ByteArray)
  | [] => some []
  | [.str s] :: r => (rowStrs r).map (s :: ·)
  | _ => none
theorem rowStrs_get : ∀ (r : Row) (l : List ByteArray), rowStrs r = some l → l.length = r.length ∧ ∀ (j : Nat) (x : ByteArray), l[j]? = some x → r[j]? = some [.str x]
  | [], l, h => by
    simp only [rowStrs, Option.some.injEq] at h
    subst h
    exact ⟨rfl, fun j x hx => by simp at hx⟩
  | p :: r, l, h => by
    unfold rowStrs at h
    split at h
    · rename_i e; cases e
    · rename_i s r' e
      injection e with e1 e2
      subst e1 e2
      cases hr : rowStrs r with
      | none => rw [hr] at h; cases h
      | some l' =>
        rw [hr] at h
        simp only [Option.map_some, Option.some.injEq] at h
        subst h
        obtain ⟨q1, q2⟩ := rowStrs_get r l' hr
        refine ⟨by simp [q1], fun j x hx => ?_⟩
        cases j with
        | zero => simp at hx; subst hx; rfl
        | succ j => simpa using q2 j x (by simpa using hx)
    · cases h

/-- strings.Join -/
noncomputable def sJoin : Spec := fun xs G => match xs with
  | [.dat (.list k 1 r), .dat (.str sep)] => match rowStrs r with
    | some (x :: l) => if k ≠ .nil ∧ (x :: l).length ≤ 140737488355328 ∧ (Go.Lib.join ((x :: l).map (·.data.toList)) sep.data.toList).length ≤ 140737488355328 then some (.dat (.str ⟨(Go.Lib.join ((x :: l).map (·.data.toList)) sep.data.toList).toArray⟩), G) else none
    | _ => none
  | _ => none
theorem sJoin_ok {P : Program} {f : FuncId} (hf : Enters P f)
    (h : ∀ (bk o c : Nat) (xs : List ByteArray) (sep : ByteArray) (w : World), (∀ (j : Nat) x, xs[j]? = some x → w.cell? ⟨bk, o + j, none⟩ = some (.string x)) → bk < w.heap.size → xs.length ≤ 140737488355328 → xs.length ≤ c → (Go.Lib.join (xs.map (·.data.toList)) sep.data.toList).length ≤ 140737488355328 →
      Calls P f #[.slice (some ⟨bk, o, none⟩) xs.length c, .string sep] w fun e w' => e = .returned (.string ⟨(Go.Lib.join (xs.map (·.data.toList)) sep.data.toList).toArray⟩) ∧ RowKit.Below w.heap.size w w') (hlt : f < yB := by decide) : COk P f sJoin := by
  refine COk.belowV hf (fun c xs G vs r G' hs hm hv => ?_) hlt
  unfold sJoin at hs
  split at hs
  · rename_i k rw_ sep
    split at hs
    · rename_i x l hr
      split at hs
      · rename_i hc
        simp only [Option.some.injEq, Prod.mk.injEq] at hs
        obtain ⟨rfl, rfl⟩ := hs
        obtain ⟨v, u, rfl, h0, h1⟩ := args_two hv
        obtain ⟨q1, q2⟩ := rowStrs_get _ _ hr
        rw [h1.str_inv]
        cases h0 with
        | dat h0 =>
          cases h0 with
          | nil => exact absurd rfl hc.1
          | void _ a hk => simp at q1
          | @list _ _ _ b o cap cv hsz hcap hmax hlv hcl hrd hk hfu =>
            refine ⟨rfl, rfl, fun _ _ _ => (by simp), _, fun _ => .dat (.str _), ?_⟩
            have hcell : ∀ (j : Nat) y, (x :: l)[j]? = some y → c.w.cell? ⟨b, o + j, none⟩ = some (.string y) := by
              intro j y hy
              have e := q2 j y hy
              have c1 := hcl j [.str y] 0 (.str y) e rfl
              have r1 := hrd j [.str y] 0 (.str y) e rfl
              generalize cv j 0 = v at r1 c1
              cases r1
              simpa using c1
            have hb : b < c.w.heap.size := by
              have := hcell 0 x rfl
              rcases Nat.lt_or_ge b c.w.heap.size with hlt | hge
              · exact hlt
              · have hn : c.w.heap[b]? = none := Array.getElem?_eq_none hge
                simp only [World.cell?, hn] at this
                cases this
            rw [← q1]
            refine h b o cap (x :: l) sep c.w hcell hb hc.2.1 (by rw [q1]; exact hcap) hc.2.2
      · cases hs
    · cases hs
  · cases hs

end Go.Eng
end
