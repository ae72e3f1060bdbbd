/- strconv.FormatInt and strconv.ParseInt at base 10, as contracts of the evaluator. -/
import Derived.Test.YtkbbgehnooncoaaGreatDoorWp28
import Derived.Lib.ParseIntBTie
section
namespace Go.Eng
open Go
variable [Inhabited Pkg]
set_option linter.unusedSectionVars false

theorem args_three {c : Cx} {x y z : AV} {vs : Array Value} (h : All2 (fun a v => VL c a v ∧ pclean1 a = true) [x, y, z] vs.toList) : ∃ v u t, vs = #[v, u, t] ∧ VL c x v ∧ VL c y u ∧ VL c z t := by
  obtain ⟨l⟩ := vs
  match l, h with
  | [v, u, t], h => exact ⟨v, u, t, rfl, h.1.1, h.2.1.1, h.2.2.1.1⟩
/-- strconv.FormatInt at base 10 -/
noncomputable def sFormatA : Spec := fun xs G => match xs with
  | [.dat (.int .i64 n), .dat (.int .i64 b)] => if b = 10 ∧ -9223372036854775808 ≤ n ∧ n ≤ 9223372036854775807 then some (.dat (.str ⟨(Go.Lib.itoa n).toArray⟩), G) else none
  | _ => none
theorem sFormatA_ok {P : Program} {f : FuncId} (hf : Enters P f) {g : Nat} (hp : pkgGl g = some (Go.Lib.pow10Tab.map fun z => .int .u64 z)) (hg : P.globalNamed "internal/strconv.uint64pow10" = some g)
    (h : ∀ (n : Int), -9223372036854775808 ≤ n → n ≤ 9223372036854775807 → ∀ (w : World), Go.Lib.TabIs P w "internal/strconv.uint64pow10" .u64 Go.Lib.pow10Tab → Calls P f #[.int .i64 n, .int .i64 10] w fun e w' => e = .returned (.string ⟨(Go.Lib.itoa n).toArray⟩) ∧ ∃ k os, w' = Go.Sort.grow (w.drewN k) os) (hlt : f < yB := by decide) : COk P f sFormatA := by
  refine COk.belowV hf (fun c xs G vs r G' hs hm hv => ?_) hlt
  unfold sFormatA at hs
  split at hs
  · rename_i n b
    split at hs
    · rename_i hc
      obtain ⟨hb, hc⟩ := hc
      subst hb
      simp only [Option.some.injEq, Prod.mk.injEq] at hs
      obtain ⟨rfl, rfl⟩ := hs
      obtain ⟨v, u, rfl, h0, h1⟩ := args_two hv
      rw [h0.int_inv, h1.int_inv]
      refine ⟨rfl, rfl, fun _ _ _ => (by simp), _, fun _ => .dat (.str _), (h n hc.1 hc.2 c.w (tabIs_laid hm.wf.pk hg hp)).mono fun e w' q => ⟨q.1, ?_⟩⟩
      obtain ⟨k, os, q⟩ := q.2
      rw [q]
      exact Go.Lib.below_grow _ _ (Nat.le_refl _) _ _
    · cases hs
  · cases hs
/-- strconv.ParseInt(s, 10, 64) -/
noncomputable def sParseA : Spec := fun xs G => match xs with
  | [.dat (.str s), .dat (.int .i64 b), .dat (.int .i64 z)] => if b = 10 ∧ z = 64 ∧ s.size ≤ 281474976710656 then match Go.Lib.atoiAll s.data.toList with
    | .ok n => some (.tup [.dat (.int .i64 n), .nili], G)
    | .range => some (.tup [.dat (.int .i64 (Go.Lib.atoiSat s.data.toList)), .err], G)
    | _ => some (.tup [.dat (.int .i64 0), .err], G)
    else none
  | _ => none
theorem sParseA_ok {P : Program} {f : FuncId} (hf : Enters P f) {g1 g2 : Nat} {t t2 : TypeId} (hp1 : pkgPv g1 = some IsI) (hp2 : pkgPv g2 = some IsI)
    (h1 : ∀ (s : ByteArray), s.size ≤ 9223372036854775806 → ∀ v, Go.Lib.atoiAll s.data.toList = .ok v → ∀ w : World, Calls P f #[.string s, .int .i64 10, .int .i64 64] w fun e w' => e = .returned (.tuple #[.int .i64 v, .nilIface]) ∧ (w' = w ∨ ∃ q, w' = Go.Lib.bytesWorld w t2 q))
    (h2 : ∀ (s : ByteArray), s.size ≤ 281474976710656 → (∀ v, Go.Lib.atoiAll s.data.toList ≠ .ok v) → Go.Lib.atoiAll s.data.toList ≠ .range → ∀ (ev : Value) (w : World), w.cell? ⟨g1, 0, none⟩ = some ev → (ev = .nilIface ∨ ∃ te pe, ev = .iface te pe) → Calls P f #[.string s, .int .i64 10, .int .i64 64] w fun e w' => ∃ N, e = .returned (.tuple #[.int .i64 0, .iface t (.pointer (some ⟨N, 0, none⟩))]) ∧ RowKit.Below w.heap.size w w')
    (h3 : ∀ (s : ByteArray), s.size ≤ 281474976710656 → Go.Lib.atoiAll s.data.toList = .range → ∀ (ev : Value) (w : World), w.cell? ⟨g2, 0, none⟩ = some ev → (ev = .nilIface ∨ ∃ te pe, ev = .iface te pe) → Calls P f #[.string s, .int .i64 10, .int .i64 64] w fun e w' => ∃ N, e = .returned (.tuple #[.int .i64 (Go.Lib.atoiSat s.data.toList), .iface t (.pointer (some ⟨N, 0, none⟩))]) ∧ RowKit.Below w.heap.size w w')
    (hlt : f < yB := by decide) : COk P f sParseA := by
  refine COk.belowW hf (fun c xs G vs r G' hs hm hv => ?_) hlt
  unfold sParseA at hs
  split at hs
  · rename_i s b z
    split at hs
    · rename_i hc
      obtain ⟨hb, hz, hc⟩ := hc
      subst hb
      subst hz
      cases hq : Go.Lib.atoiAll s.data.toList
      all_goals
        simp only [hq, Option.some.injEq, Prod.mk.injEq] at hs
        obtain ⟨rfl, rfl⟩ := hs
        obtain ⟨v, u, q0, rfl, h0, hb, hz⟩ := args_three hv
        rw [h0.str_inv, hb.int_inv, hz.int_inv]
        refine ⟨rfl, rfl, fun _ _ _ => (by simp), ?_⟩
      · refine (h1 s (by omega) _ hq c.w).mono fun e w' q => ⟨_, q.1, fun _ => tup2 (.dat (.int _ _)) .nili, ?_⟩
        rcases q.2 with q | ⟨t, q⟩
        · rw [q]; exact RowKit.Below.refl _ _
        · rw [q]; exact Go.Lib.bytesWorld_below _ _ _
      · obtain ⟨_, ev, hcell, hev⟩ := hm.wf.pk.pv g1 _ hp1
        refine (h2 s hc (fun v h => by rw [hq] at h; cases h) (fun h => by rw [hq] at h; cases h) ev c.w hcell hev).mono fun e w' q => ?_
        obtain ⟨N, q1, q2⟩ := q
        exact ⟨_, q1, fun _ => tup2 (.dat (.int _ _)) (.err _ _), q2⟩
      · obtain ⟨_, ev, hcell, hev⟩ := hm.wf.pk.pv g2 _ hp2
        refine (h3 s hc hq ev c.w hcell hev).mono fun e w' q => ?_
        obtain ⟨N, q1, q2⟩ := q
        exact ⟨_, q1, fun _ => tup2 (.dat (.int _ _)) (.err _ _), q2⟩
    · cases hs
  · cases hs
end Go.Eng
end
