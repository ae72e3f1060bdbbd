/- Trace: the first rounds, and all of them. -/
import Derived.Test.YtkconbpjimjbnaaTpF
namespace Go.Eng
open Go
set_option maxRecDepth 100000

theorem tellY_nil {n : Int} : tellY [] n = [] := by unfold tellY; split <;> simp

/-- what comes behind a round from a state in which nothing was noted -/
def NextT (k : LK) (l : Row) (i : Nat) (cs : List Int) (st : St) : Prop := (∃ X' cs' md', InvT X' cs' ∧ md' ≠ .ro ∧ X'.length ≤ i + 1 ∧ st = invR k l (i + 1) X' cs' md') ∨ st = invN k l (i + 1) cs

theorem rdA_step {k : LK} {l : Row} {i : Nat} {cs : List Int} (hi : i < l.length) {kd a nd wy n : Int} (ha : l[i] = actR kd a nd wy n) (hl : l.length ≤ 300) (inv : InvT [] cs) :
    ∃ st, NextT k l i cs st ∧ (rdA k l i nilA 0 (cR cs)).run = some (.norm, st) := by
  rw [← Tr.ev_run, rdA_eq]
  have hb : ∀ x ∈ cs, 0 ≤ x ∧ x ≤ 1000 := fun x hx => by have := inv.bnd x hx; simp at this; omega
  have g4 : IntKind.wrap .i64 ((i : Int) + 1) = ((i + 1 : Nat) : Int) := by rw [wrapI (by omega)]; omega
  have pre : ∀ {r : Option (Ex × St)} {t : Int → D → D → D → D → Option (Ex × St)} {e1 e2 : Option (Ex × St)}, t kd (.int .i64 a) (.int .i64 nd) (.int .i64 wy) (.int .i64 n) = r →
      rAsk (decide ((i : Int) < ((l.length : Nat) : Int))) (rAsk (true && (decide ((0 : Int) ≤ (i : Int)) && decide ((i : Int) < ((l.length : Nat) : Int)))) (rGet l[((i : Int)).toNat]? fun x1 => rGet (List.drop 0 x1).head? fun x2 => rGet (List.drop 0 x1).tail.head? fun x3 =>
        rGet (List.drop 0 x1).tail.tail.head? fun x4 => rGet (List.drop 0 x1).tail.tail.tail.head? fun x5 => rGet (List.drop 0 x1).tail.tail.tail.tail.head? fun x6 => rGet (D.int? .i64 x2) fun x7 => t x7 x3 x4 x5 x6) e1) e2 = r := by
    intro r t e1 e2 h
    refine rAsk_t (decide_eq_true (by omega)) ?_
    refine rAsk_t (by rw [decide_eq_true (show (0 : Int) ≤ (i : Int) by omega), decide_eq_true (show (i : Int) < ((l.length : Nat) : Int) by omega)]; rfl) ?_
    refine rGet_step (x := actR kd a nd wy n) (by rw [Int.toNat_natCast, List.getElem?_eq_getElem hi, ha]) ?_
    exact h
  by_cases h0 : Int.tmod kd 3 = 0
  · refine ⟨_, .inl ⟨[evR 1 a nd wy], bump cs a, .excl, inv.add a nd wy, by simp, by simp, rfl⟩, ?_⟩
    refine pre (t := fun x7 x3 x4 x5 x6 => _) ?_
    refine rAsk_t (by rw [h0]; rfl) ?_
    refine rGet_step (fnS_eq inj10 (b := ((1 : Int), keptA [evR 1 a nd wy], (1 : Int), cR (bump cs a))) (add0_run (o2 := [robj nilA]) inv.len hb)) ?_
    refine rGet_step (fnS_eq inj11 (b := ((1 : Int), Mode.excl, [evR 1 a nd wy])) radd0_run) ?_
    refine rAsk_f (ne_self _) ?_
    refine rAsk_t (dec_any _ rfl) ?_
    refine rAsk_f (ne_self _) ?_
    rw [g4]
    rfl
  · by_cases h1 : Int.tmod kd 3 = 1
    · obtain ⟨K, s, e12, hs⟩ := since0_run (c := cR cs) (n := n) (o2 := [robj nilA])
      have e13 := rsince0_run (n := n) (o1 := tobj nilA 0 (cR cs))
      refine ⟨_, .inr rfl, ?_⟩
      refine pre (t := fun x7 x3 x4 x5 x6 => _) ?_
      refine rAsk_f (by simpa using h0) ?_
      refine rAsk_t (by rw [h1]; rfl) ?_
      refine rGet_step (fnS_eq inj12 (b := (D.list K s (tellY [] n), tellE [] n)) e12) ?_
      refine rGet_step (fnS_eq inj12 (b := (D.list .nil 0 (tellY [] n), tellE [] n)) e13) ?_
      have hev : ∀ r ∈ tellY [] n, isEv r := fun r hr => by rw [tellY_nil] at hr; cases hr
      refine rGet_step (fnS_eq inj14 (b := true) (R14_run hev (.inl tellY_nil) (.inl tellY_nil) (by rw [tellY_nil]; simp))) ?_
      refine rAsk_f rfl ?_
      refine rAsk_f (ne_self _) ?_
      have e21 := loop21 (lo := noLo) (k := k) (l := l) (i := i) (kx := K) (sx := s) (kc := nilA) (last := 0) (c := cR cs) (o2 := robj nilA) hs (inv.rises n) (by rw [tellY_nil]; simp) (by omega) (tellY [] n).length 0 (by omega)
      refine rGet_step (loS_eq (x := ()) (fun _ _ _ => rfl) ?_) ?_
      · exact e21
      refine rAsk_t (dec_any _ rfl) ?_
      refine rAsk_f (ne_self _) ?_
      rw [g4]
      rfl
    · refine ⟨_, .inr rfl, ?_⟩
      refine pre (t := fun x7 x3 x4 x5 x6 => _) ?_
      refine rAsk_f (by simpa using h0) ?_
      refine rAsk_f (by simpa using h1) ?_
      have e16 := of0_run (kc := nilA) (last := 0) (k := a) (o2 := [robj nilA]) inv.len
      have e0 : cntO [] a = 0 := by unfold cntO; split <;> rfl
      rw [inv.of a, e0] at e16
      refine rGet_step (fnS_eq inj16 (b := (0 : Int)) e16) ?_
      refine rGet_step (fnS_eq inj16 (b := (0 : Int)) (f17_run0 (o1 := tobj nilA 0 (cR cs)))) ?_
      refine rAsk_f (ne_self _) ?_
      refine rAsk_t (dec_any _ rfl) ?_
      refine rAsk_f (ne_self _) ?_
      rw [g4]
      rfl

theorem rd0_step {k : LK} {l : Row} {cs : List Int} (hi : 0 < l.length) {kd a nd wy n : Int} (ha : l[0] = actR kd a nd wy n) (hl : l.length ≤ 300) (inv : InvT [] cs) :
    ∃ st, NextT k l 0 cs st ∧ (rd0 k l 0 (cR cs)).run = some (.norm, st) := by
  rw [← Tr.ev_run, rd0_eq]
  have hb : ∀ x ∈ cs, 0 ≤ x ∧ x ≤ 1000 := fun x hx => by have := inv.bnd x hx; simp at this; omega
  have pre : ∀ {r : Option (Ex × St)} {t : Int → D → D → D → D → Option (Ex × St)} {b1 b2 : Bool} {o : Option (List D)} {e1 e2 : Option (Ex × St)}, b1 = true → b2 = true → o = some (actR kd a nd wy n) → t kd (.int .i64 a) (.int .i64 nd) (.int .i64 wy) (.int .i64 n) = r →
      rAsk b1 (rAsk b2 (rGet o fun x1 => rGet (List.drop 0 x1).head? fun x2 => rGet (List.drop 0 x1).tail.head? fun x3 =>
        rGet (List.drop 0 x1).tail.tail.head? fun x4 => rGet (List.drop 0 x1).tail.tail.tail.head? fun x5 => rGet (List.drop 0 x1).tail.tail.tail.tail.head? fun x6 => rGet (D.int? .i64 x2) fun x7 => t x7 x3 x4 x5 x6) e1) e2 = r := by
    intro r t b1 b2 o e1 e2 q1 q2 q3 h
    refine rAsk_t q1 ?_
    refine rAsk_t q2 ?_
    refine rGet_step q3 ?_
    exact h
  have p1 : decide ((0 : Int) < ((l.length : Nat) : Int)) = true := decide_eq_true (by omega)
  have p3 : l[0]? = some (actR kd a nd wy n) := by rw [List.getElem?_eq_getElem hi, ha]
  by_cases h0 : Int.tmod kd 3 = 0
  · refine ⟨_, .inl ⟨[evR 1 a nd wy], bump cs a, .excl, inv.add a nd wy, by simp, by simp, rfl⟩, ?_⟩
    refine pre (t := fun x7 x3 x4 x5 x6 => _) p1 (by simp; try omega) p3 ?_
    refine rAsk_t (by rw [h0]; rfl) ?_
    refine rGet_step (fnS_eq inj10 (b := ((1 : Int), keptA [evR 1 a nd wy], (1 : Int), cR (bump cs a))) (add0_run (o2 := []) inv.len hb)) ?_
    refine rGet_step (fnS_eq inj11 (b := ((1 : Int), Mode.excl, [evR 1 a nd wy])) radd0_run) ?_
    refine rAsk_f (ne_self _) ?_
    refine rAsk_t (dec_any _ rfl) ?_
    refine rAsk_f (ne_self _) ?_
    rfl
  · by_cases h1 : Int.tmod kd 3 = 1
    · obtain ⟨K, s, e12, hs⟩ := since0_run (c := cR cs) (n := n) (o2 := [])
      have e13 := rsince0_run (n := n) (o1 := tobj nilA 0 (cR cs))
      refine ⟨_, .inr rfl, ?_⟩
      refine pre (t := fun x7 x3 x4 x5 x6 => _) p1 (by simp; try omega) p3 ?_
      refine rAsk_f (by simpa using h0) ?_
      refine rAsk_t (by rw [h1]; rfl) ?_
      refine rGet_step (fnS_eq inj12 (b := (D.list K s (tellY [] n), tellE [] n)) e12) ?_
      refine rGet_step (fnS_eq inj12 (b := (D.list .nil 0 (tellY [] n), tellE [] n)) e13) ?_
      have hev : ∀ r ∈ tellY [] n, isEv r := fun r hr => by rw [tellY_nil] at hr; cases hr
      refine rGet_step (fnS_eq inj14 (b := true) (R14_run hev (.inl tellY_nil) (.inl tellY_nil) (by rw [tellY_nil]; simp))) ?_
      refine rAsk_f rfl ?_
      refine rAsk_f (ne_self _) ?_
      have e21 := loop21 (lo := noLo) (k := k) (l := l) (i := 0) (kx := K) (sx := s) (kc := nilA) (last := 0) (c := cR cs) (o2 := robj nilA) hs (inv.rises n) (by rw [tellY_nil]; simp) (by omega) (tellY [] n).length 0 (by omega)
      refine rGet_step (loS_eq (x := ()) (fun _ _ _ => rfl) ?_) ?_
      · exact e21
      refine rAsk_t (dec_any _ rfl) ?_
      refine rAsk_f (ne_self _) ?_
      rfl
    · refine ⟨_, .inr rfl, ?_⟩
      refine pre (t := fun x7 x3 x4 x5 x6 => _) p1 (by simp; try omega) p3 ?_
      refine rAsk_f (by simpa using h0) ?_
      refine rAsk_f (by simpa using h1) ?_
      have e16 := of0_run (kc := nilA) (last := 0) (k := a) (o2 := []) inv.len
      have e0 : cntO [] a = 0 := by unfold cntO; split <;> rfl
      rw [inv.of a, e0] at e16
      refine rGet_step (fnS_eq inj16 (b := (0 : Int)) e16) ?_
      refine rGet_step (fnS_eq inj16 (b := (0 : Int)) (f17_run0 (o1 := tobj nilA 0 (cR cs)))) ?_
      refine rAsk_f (ne_self _) ?_
      refine rAsk_t (dec_any _ rfl) ?_
      refine rAsk_f (ne_self _) ?_
      rfl

/-! ### all rounds -/
theorem lo21_ok : LoOk2 TT tL.runs H3 lo21 lp3 := by
  refine LoOk2.of lp3 fun b hb st r h => ?_
  have hl : loops lp3 = [lp21] := by kernel_rfl
  rw [hl] at hb
  obtain rfl := List.mem_singleton.1 hb
  rw [show firstRegion lp21 = 21 from by kernel_rfl] at h
  exact tlo_ok h

def acts (l : Row) : Prop := ∀ (i : Nat) (h : i < l.length), ∃ kd a nd wy n, l[i] = actR kd a nd wy n

theorem hO3 : ∀ f xs G r, (tL f xs G).run = some r → tL.runs f xs G = some r := fun _ _ _ _ h => h

theorem loopR {k : LK} {l : Row} (hac : acts l) (hl : l.length ≤ 300) : ∀ (d i : Nat) (X : Row) (cs : List Int) (md : Mode), l.length = i + d → InvT X cs → md ≠ .ro → X.length ≤ i →
    ∃ o1 o2, LoopTo TT tL.runs H3 lp3 (invR k l i X cs md) (out6 [o1, o2])
  | 0, i, X, cs, md, h, _, _, _ => by
    obtain rfl : i = l.length := by omega
    refine ⟨_, _, LoopTo.last (orc := tL) (lo := lo21) hO3 lo21_ok (show (rdB k l l.length (KC X) X.length (cR cs) md X).run = some (out6 [tobj (KC X) X.length (cR cs), robj (rowA md X)]) from ?_) (by intro h; cases h)⟩
    rw [← Tr.ev_run, rdB_eq]
    exact rAsk_f (decide_eq_false (by omega)) rfl
  | d + 1, i, X, cs, md, h, inv, hmd, hX => by
    obtain ⟨kd, a, nd, wy, n, ha⟩ := hac i (by omega)
    obtain ⟨X', cs', md', inv', hmd', hX', hs⟩ := rdB_step (k := k) (by omega) ha hl hX inv hmd
    obtain ⟨o1, o2, ih⟩ := loopR (k := k) hac hl d (i + 1) X' cs' md' (by omega) inv' hmd' hX'
    exact ⟨o1, o2, LoopTo.more (orc := tL) (lo := lo21) hO3 lo21_ok hs ih⟩

theorem loopNil {k : LK} {l : Row} {cs : List Int} (hac : acts l) (hl : l.length ≤ 300) (inv : InvT [] cs) : ∀ (d i : Nat), l.length = i + d →
    ∃ o1 o2, LoopTo TT tL.runs H3 lp3 (invN k l i cs) (out6 [o1, o2])
  | 0, i, h => by
    obtain rfl : i = l.length := by omega
    refine ⟨_, _, LoopTo.last (orc := tL) (lo := lo21) hO3 lo21_ok (show (rdA k l l.length nilA 0 (cR cs)).run = some (out6 [tobj nilA 0 (cR cs), robj nilA]) from ?_) (by intro h; cases h)⟩
    rw [← Tr.ev_run, rdA_eq]
    exact rAsk_f (decide_eq_false (by omega)) rfl
  | d + 1, i, h => by
    obtain ⟨kd, a, nd, wy, n, ha⟩ := hac i (by omega)
    obtain ⟨st, hn, hs⟩ := rdA_step (k := k) (by omega) ha hl inv
    rcases hn with ⟨X', cs', md', inv', hmd', hX', rfl⟩ | rfl
    · obtain ⟨o1, o2, ih⟩ := loopR (k := k) hac hl d (i + 1) X' cs' md' (by omega) inv' hmd' hX'
      exact ⟨o1, o2, LoopTo.more (orc := tL) (lo := lo21) hO3 lo21_ok hs ih⟩
    · obtain ⟨o1, o2, ih⟩ := loopNil (k := k) hac hl inv d (i + 1) (by omega)
      exact ⟨o1, o2, LoopTo.more (orc := tL) (lo := lo21) hO3 lo21_ok hs ih⟩

theorem loop0 {k : LK} {l : Row} {cs : List Int} (hac : acts l) (hl : l.length ≤ 300) (inv : InvT [] cs) :
    (∃ o1 o2, LoopTo TT tL.runs H3 lp3 (inv0 k l 0 (cR cs)) (out6 [o1, o2])) ∨ ∃ o1, LoopTo TT tL.runs H3 lp3 (inv0 k l 0 (cR cs)) (out6 [o1]) := by
  by_cases h0 : l.length = 0
  · right
    refine ⟨_, LoopTo.last (orc := tL) (lo := lo21) hO3 lo21_ok (show (rd0 k l 0 (cR cs)).run = some (out6 [tobj nilA 0 (cR cs)]) from ?_) (by intro h; cases h)⟩
    rw [← Tr.ev_run, rd0_eq]
    exact rAsk_f (decide_eq_false (by omega)) rfl
  · left
    obtain ⟨kd, a, nd, wy, n, ha⟩ := hac 0 (by omega)
    obtain ⟨st, hn, hs⟩ := rd0_step (k := k) (by omega) ha hl inv
    rcases hn with ⟨X', cs', md', inv', hmd', hX', rfl⟩ | rfl
    · obtain ⟨o1, o2, ih⟩ := loopR (k := k) hac hl (l.length - 1) 1 X' cs' md' (by omega) inv' hmd' hX'
      exact ⟨o1, o2, LoopTo.more (orc := tL) (lo := lo21) hO3 lo21_ok hs ih⟩
    · obtain ⟨o1, o2, ih⟩ := loopNil (k := k) hac hl inv (l.length - 1) 1 (by omega)
      exact ⟨o1, o2, LoopTo.more (orc := tL) (lo := lo21) hO3 lo21_ok hs ih⟩

end Go.Eng
