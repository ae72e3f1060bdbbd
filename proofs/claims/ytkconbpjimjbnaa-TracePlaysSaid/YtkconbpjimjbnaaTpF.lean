/- Trace: each round of the law ends well. -/
import Derived.Test.YtkconbpjimjbnaaTpE
namespace Go.Eng
open Go
set_option maxRecDepth 100000

theorem dec_any {p : Prop} (i : Decidable p) (h : p) : @decide p i = true := decide_eq_true h

theorem ne_self (a : Int) : (a != a) = false := by simp

/-- behind a round -/
def invR (k : LK) (l : Row) (i : Nat) (X : Row) (cs : List Int) (md : Mode) : St := inv1 k l i (KC X) X.length (cR cs) (rowA md X)
def invN (k : LK) (l : Row) (i : Nat) (cs : List Int) : St := inv1 k l i nilA 0 (cR cs) nilA

theorem rdB_step {k : LK} {l : Row} {i : Nat} {X : Row} {cs : List Int} {md : Mode} (hi : i < l.length) {kd a nd wy n : Int} (ha : l[i] = actR kd a nd wy n) (hl : l.length ≤ 300) (hX : X.length ≤ i) (inv : InvT X cs) (hmd : md ≠ .ro) :
    ∃ X' cs' md', InvT X' cs' ∧ md' ≠ .ro ∧ X'.length ≤ i + 1 ∧ (rdB k l i (KC X) X.length (cR cs) md X).run = some (.norm, invR k l (i + 1) X' cs' md') := by
  rw [← Tr.ev_run, rdB_eq]
  have hb : ∀ x ∈ cs, 0 ≤ x ∧ x ≤ 1000 := fun x hx => by have := inv.bnd x hx; omega
  have g4 : IntKind.wrap .i64 ((i : Int) + 1) = ((i + 1 : Nat) : Int) := by rw [wrapI (by omega)]; omega
  have pre : ∀ {r : Option (Ex × St)} {t : Int → D → D → D → D → Option (Ex × St)} {e1 e2 : Option (Ex × St)}, t kd (.int .i64 a) (.int .i64 nd) (.int .i64 wy) (.int .i64 n) = r →
      rAsk (decide ((i : Int) < ((l.length : Nat) : Int))) (rAsk (true && (decide ((0 : Int) ≤ (i : Int)) && decide ((i : Int) < ((l.length : Nat) : Int)))) (rGet l[((i : Int)).toNat]? fun x1 => rGet (List.drop 0 x1).head? fun x2 => rGet (List.drop 0 x1).tail.head? fun x3 =>
        rGet (List.drop 0 x1).tail.tail.head? fun x4 => rGet (List.drop 0 x1).tail.tail.tail.head? fun x5 => rGet (List.drop 0 x1).tail.tail.tail.tail.head? fun x6 => rGet (D.int? .i64 x2) fun x7 => t x7 x3 x4 x5 x6) e1) e2 = r := by
    intro r t e1 e2 h
    refine rAsk_t (decide_eq_true (by omega)) ?_
    refine rAsk_t (by rw [decide_eq_true (show (0 : Int) ≤ (i : Int) by omega), decide_eq_true (show (i : Int) < ((l.length : Nat) : Int) by omega)]; rfl) ?_
    refine rGet_step (x := actR kd a nd wy n) (by rw [Int.toNat_natCast, List.getElem?_eq_getElem hi, ha]) ?_
    exact h
  by_cases h0 : Int.tmod kd 3 = 0
  · -- one more
    refine ⟨X ++ [evR (X.length + 1) a nd wy], bump cs a, md, inv.add a nd wy, hmd, by simp; omega, ?_⟩
    refine pre (t := fun x7 x3 x4 x5 x6 => _) ?_
    refine rAsk_t (by rw [h0]; rfl) ?_
    refine rGet_step (fnS_eq inj10 (b := ((X.length : Int) + 1, KC (X ++ [evR ((X.length : Int) + 1) a nd wy]), (X.length : Int) + 1, cR (bump cs a))) (add_all (o2 := [robj (rowA md X)]) (by omega) inv.len hb)) ?_
    refine rGet_step (fnS_eq inj11 (b := ((X.length : Int) + 1, md, X ++ [evR ((X.length : Int) + 1) a nd wy])) (radd_all (by omega) hmd)) ?_
    refine rAsk_f (ne_self _) ?_
    refine rAsk_t (dec_any _ rfl) ?_
    have hlen : (((X ++ [evR (X.length + 1) a nd wy]).length : Nat) : Int) = (X.length : Int) + 1 := by simp
    refine rAsk_f (by show (((X.length : Int) + 1) != (((X ++ [evR (X.length + 1) a nd wy]).length : Nat) : Int)) = false; rw [hlen]; exact ne_self _) ?_
    rw [g4]
    unfold invR inv1
    rw [hlen]
    rfl
  · by_cases h1 : Int.tmod kd 3 = 1
    · -- those behind a number
      obtain ⟨K, s, e12, hs⟩ := since_all (X := X) (c := cR cs) (n := n) (o2 := [robj (rowA md X)]) (by omega)
      obtain ⟨K', s', md', hmd', e13, hs'⟩ := rsince_all (X := X) (n := n) (o1 := tobj (KC X) X.length (cR cs)) (by omega) hmd
      refine ⟨X, cs, md', inv, hmd', by omega, ?_⟩
      refine pre (t := fun x7 x3 x4 x5 x6 => _) ?_
      refine rAsk_f (by simpa using h0) ?_
      refine rAsk_t (by rw [h1]; rfl) ?_
      refine rGet_step (fnS_eq inj12 (b := (D.list K s (tellY X n), tellE X n)) e12) ?_
      refine rGet_step (fnS_eq inj13 (b := (D.list K' s' (tellY X n), tellE X n, md')) e13) ?_
      have hev : ∀ r ∈ tellY X n, isEv r := fun r hr => inv.ev r (tellY_sub r hr)
      have hlen : (tellY X n).length ≤ 900 := by have := tellY_len (X := X) (n := n); omega
      refine rGet_step (fnS_eq inj14 (b := true) (R14_run hev hs hs' hlen)) ?_
      refine rAsk_f rfl ?_
      refine rAsk_f (ne_self _) ?_
      have e21 := loop21 (lo := noLo) (k := k) (l := l) (i := i) (kx := K) (sx := s) (kc := KC X) (c := cR cs) (o2 := robj (rowA md' X)) hs (inv.rises n) hlen (by omega) (tellY X n).length 0 (by omega)
      refine rGet_step (loS_eq (x := ()) (fun _ _ _ => rfl) ?_) ?_
      · exact e21
      refine rAsk_t (dec_any _ rfl) ?_
      refine rAsk_f (ne_self _) ?_
      rw [g4]
      rfl
    · -- how many
      refine ⟨X, cs, md, inv, hmd, by omega, ?_⟩
      refine pre (t := fun x7 x3 x4 x5 x6 => _) ?_
      refine rAsk_f (by simpa using h0) ?_
      refine rAsk_f (by simpa using h1) ?_
      have e16 := of0_run (kc := KC X) (last := X.length) (k := a) (o2 := [robj (rowA md X)]) inv.len
      rw [inv.of a] at e16
      refine rGet_step (fnS_eq inj16 (b := cntO X a) e16) ?_
      refine rGet_step (fnS_eq inj16 (b := cntO X a) (f17_run1 (md := md) (o1 := tobj (KC X) X.length (cR cs)) inv.ev (by omega))) ?_
      refine rAsk_f (ne_self _) ?_
      refine rAsk_t (dec_any _ rfl) ?_
      refine rAsk_f (ne_self _) ?_
      rw [g4]
      rfl

end Go.Eng
