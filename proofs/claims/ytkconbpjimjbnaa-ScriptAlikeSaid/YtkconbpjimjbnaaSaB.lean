/- What the lists' loops come to. -/
import Derived.Test.YtkconbpjimjbnaaSaA
import Derived.Test.YtkconbpjimjbnaaEngTy
import Derived.IntWalk
namespace Go.Eng
open Go
set_option maxRecDepth 100000

theorem rd48_eq (k1 k2 : LK) (xs ys : Row) (G : List Ent) (n i : Int) : (rd48 k1 k2 xs ys G n i).ev =
  (rAsk (decide (i < n))
   (rAsk (true && ((decide ((0 : Int) ≤ i)) && (decide (i < (((List.length xs) : Nat) : Int)))))
    (rGet xs[(Int.toNat i)]? fun x1 =>
     (rGet (List.head? (List.drop 0 x1)) fun x2 =>
      (rAsk (true && ((decide ((0 : Int) ≤ i)) && (decide (i < (((List.length ys) : Nat) : Int)))))
       (rGet ys[(Int.toNat i)]? fun x3 =>
        (rGet (List.head? (List.drop 0 x3)) fun x4 =>
         (rGet (D.int? IntKind.i64 x2) fun x5 =>
          (rGet (D.int? IntKind.i64 x4) fun x6 =>
           (rAsk (x5 != x6)
            (some (Ex.ret, (St.mk (mkT 0 26 [(4, (AV.dat (D.bool false)))]) (Mem.mk [] G 0))))
            (some (Ex.norm, (St.mk (mkT 0 26 [(0, (AV.dat (D.list k1 1 xs))), (1, (AV.dat (D.list k2 1 ys))), (12, (AV.dat (D.int IntKind.i64 n))), (13, (AV.dat (D.int IntKind.i64 (IntKind.wrap IntKind.i64 (i + (1 : Int))))))]) (Mem.mk [] G 0))))
           )
          )
         )
        )
       )
       none
      )
     )
    )
    none
   )
   (some ((Ex.exit 0), (St.mk (mkT 0 26 []) (Mem.mk [] G 0))))
  )
  := by kernel_rfl

theorem rd49_eq (k1 k2 : LK) (xs ys : Row) (G : List Ent) (i : Int) : (rd49 k1 k2 xs ys G i).ev =
  (rAsk (decide (i < (((List.length xs) : Nat) : Int)))
   (rAsk (true && ((decide ((0 : Int) ≤ i)) && (decide (i < (((List.length xs) : Nat) : Int)))))
    (rGet xs[(Int.toNat i)]? fun x1 =>
     (rGet (List.head? (List.drop 0 x1)) fun x2 =>
      (rAsk (true && ((decide ((0 : Int) ≤ i)) && (decide (i < (((List.length ys) : Nat) : Int)))))
       (rGet ys[(Int.toNat i)]? fun x3 =>
        (rGet (List.head? (List.drop 0 x3)) fun x4 =>
         (rGet (D.int? IntKind.i64 x2) fun x5 =>
          (rGet (D.int? IntKind.i64 x4) fun x6 =>
           (rAsk (x5 != x6)
            (some (Ex.ret, (St.mk (mkT 0 26 [(4, (AV.dat (D.bool false)))]) (Mem.mk [] G 0))))
            (some (Ex.norm, (St.mk (mkT 0 26 [(0, (AV.dat (D.list k1 1 xs))), (1, (AV.dat (D.list k2 1 ys))), (5, (AV.dat (D.int IntKind.i64 (IntKind.wrap IntKind.i64 (i + (1 : Int))))))]) (Mem.mk [] G 0))))
           )
          )
         )
        )
       )
       none
      )
     )
    )
    none
   )
   (some ((Ex.exit 0), (St.mk (mkT 0 26 []) (Mem.mk [] G 0))))
  )
  := by kernel_rfl

theorem encI_len (l : List Int) : (encI l).length = l.length := by simp [encI]

theorem encI_get {l : List Int} {i : Nat} {z : Int} (h : l[i]? = some z) : (encI l)[i]? = some [.int .i64 z] := by simp [encI, h]

theorem drop_split {α : Type} {l : List α} {i : Nat} (h : i < l.length) : l[i]? = some l[i] ∧ l.drop i = l[i] :: l.drop (i + 1) := ⟨by simp [h], List.drop_eq_getElem_cons h⟩

theorem drop_iff {α : Type} {l r : List α} {i : Nat} (h : i < l.length) (h2 : i < r.length) : l.drop i = r.drop i ↔ l[i] = r[i] ∧ l.drop (i + 1) = r.drop (i + 1) := by
  rw [(drop_split h).2, (drop_split h2).2]
  exact ⟨fun e => by injection e with e1 e2; exact ⟨e1, e2⟩, fun ⟨e1, e2⟩ => by rw [e1, e2]⟩

theorem wrap_id {n : Int} (h : -9223372036854775808 ≤ n ∧ n ≤ 9223372036854775807) : IntKind.wrap .i64 n = n := IntWalk.i64_in n h

theorem rd48_end {k1 k2 : LK} {us vs : List Int} {G : List Ent} : (rd48 k1 k2 (encI us) (encI vs) G us.length us.length).run = some (outB 26 G true) := by
  rw [← Tr.ev_run, rd48_eq]
  simp only [Int.lt_irrefl, decide_false, rAsk]
  rfl

theorem rd48_step {k1 k2 : LK} {us vs : List Int} {G : List Ent} {i : Nat} (hu : i < us.length) (hv : i < vs.length) (hm : us.length ≤ maxLen) :
    (rd48 k1 k2 (encI us) (encI vs) G us.length i).run = some (if us[i] = vs[i] then (.norm, inv48 k1 k2 (encI us) (encI vs) G us.length ((i + 1 : Nat) : Int)) else outB 26 G false) := by
  rw [← Tr.ev_run, rd48_eq]
  have h1 : decide ((i : Int) < (us.length : Int)) = true := decide_eq_true (by omega)
  have h2 : decide ((i : Int) < (((encI us).length : Nat) : Int)) = true := by rw [encI_len]; exact h1
  have h3 : decide ((i : Int) < (((encI vs).length : Nat) : Int)) = true := by rw [encI_len]; exact decide_eq_true (by omega)
  have h4 : decide ((0 : Int) ≤ (i : Int)) = true := decide_eq_true (by omega)
  have h5 := encI_get (drop_split hu).1
  have h6 := encI_get (drop_split hv).1
  have h7 : IntKind.wrap .i64 ((i : Int) + 1) = ((i + 1 : Nat) : Int) := by
    rw [wrap_id (by unfold maxLen at hm; omega)]; omega
  simp only [h1, h2, h3, h4, h7, Int.toNat_natCast, h5, h6, rAsk, rGet, Bool.and_self, List.drop_zero, List.head?_cons, D.int?, if_true]
  by_cases he : us[i] = vs[i]
  · simp [he, inv48]
  · have : (us[i] != vs[i]) = true := by simpa using he
    simp only [this, if_neg he]
    rfl

theorem loop48 {k1 k2 : LK} {us vs : List Int} {G : List Ent} (hl : us.length = vs.length) (hm : us.length ≤ maxLen) : ∀ (d i : Nat), us.length = i + d →
    LoopTo TT (tinF 0).runs H48 lp48 (inv48 k1 k2 (encI us) (encI vs) G us.length i) (outB 26 G (decide (us.drop i = vs.drop i)))
  | 0, i, h => by
    have e : decide (us.drop i = vs.drop i) = true := decide_eq_true (by rw [List.drop_of_length_le (by omega), List.drop_of_length_le (by omega)])
    rw [e]
    obtain rfl : i = us.length := by omega
    exact LoopTo.last (orc := tinF 0) (lo := noLo) (fun _ _ _ _ h => h) (LoOk2.no _) rd48_end (by intro h; cases h)
  | d + 1, i, h => by
    have hu : i < us.length := by omega
    have hv : i < vs.length := by omega
    have hs := rd48_step (k1 := k1) (k2 := k2) (G := G) hu hv hm
    by_cases he : us[i] = vs[i]
    · rw [if_pos he] at hs
      have ih := loop48 (k1 := k1) (k2 := k2) (G := G) hl hm d (i + 1) (by omega)
      have e : decide (us.drop i = vs.drop i) = decide (us.drop (i + 1) = vs.drop (i + 1)) := by
        rw [decide_eq_decide, drop_iff hu hv]
        exact ⟨fun h => h.2, fun h => ⟨he, h⟩⟩
      rw [e]
      exact LoopTo.more (orc := tinF 0) (lo := noLo) (fun _ _ _ _ h => h) (LoOk2.no _) hs ih
    · rw [if_neg he] at hs
      have e : decide (us.drop i = vs.drop i) = false := by
        rw [decide_eq_false_iff_not, drop_iff hu hv]
        exact fun h => he h.1
      rw [e]
      exact LoopTo.last (orc := tinF 0) (lo := noLo) (fun _ _ _ _ h => h) (LoOk2.no _) hs (by intro h; cases h)

theorem rd49_end {k1 k2 : LK} {us vs : List Int} {G : List Ent} : (rd49 k1 k2 (encI us) (encI vs) G us.length).run = some (outB 26 G true) := by
  rw [← Tr.ev_run, rd49_eq]
  simp only [encI_len, Int.lt_irrefl, decide_false, rAsk]
  rfl

theorem rd49_step {k1 k2 : LK} {us vs : List Int} {G : List Ent} {i : Nat} (hu : i < us.length) (hv : i < vs.length) (hm : us.length ≤ maxLen) :
    (rd49 k1 k2 (encI us) (encI vs) G i).run = some (if us[i] = vs[i] then (.norm, inv49 k1 k2 (encI us) (encI vs) G ((i + 1 : Nat) : Int)) else outB 26 G false) := by
  rw [← Tr.ev_run, rd49_eq]
  have h2 : decide ((i : Int) < (((encI us).length : Nat) : Int)) = true := by rw [encI_len]; exact decide_eq_true (by omega)
  have h3 : decide ((i : Int) < (((encI vs).length : Nat) : Int)) = true := by rw [encI_len]; exact decide_eq_true (by omega)
  have h4 : decide ((0 : Int) ≤ (i : Int)) = true := decide_eq_true (by omega)
  have h5 := encI_get (drop_split hu).1
  have h6 := encI_get (drop_split hv).1
  have h7 : IntKind.wrap .i64 ((i : Int) + 1) = ((i + 1 : Nat) : Int) := by
    rw [wrap_id (by unfold maxLen at hm; omega)]; omega
  simp only [h2, h3, h4, h7, Int.toNat_natCast, h5, h6, rAsk, rGet, Bool.and_self, List.drop_zero, List.head?_cons, D.int?, if_true]
  by_cases he : us[i] = vs[i]
  · simp [he, inv49]
  · have : (us[i] != vs[i]) = true := by simpa using he
    simp only [this, if_neg he]
    rfl

theorem loop49 {k1 k2 : LK} {us vs : List Int} {G : List Ent} (hl : us.length = vs.length) (hm : us.length ≤ maxLen) : ∀ (d i : Nat), us.length = i + d →
    LoopTo TT (tinF 0).runs H49 lp49 (inv49 k1 k2 (encI us) (encI vs) G i) (outB 26 G (decide (us.drop i = vs.drop i)))
  | 0, i, h => by
    have e : decide (us.drop i = vs.drop i) = true := decide_eq_true (by rw [List.drop_of_length_le (by omega), List.drop_of_length_le (by omega)])
    rw [e]
    obtain rfl : i = us.length := by omega
    exact LoopTo.last (orc := tinF 0) (lo := noLo) (fun _ _ _ _ h => h) (LoOk2.no _) rd49_end (by intro h; cases h)
  | d + 1, i, h => by
    have hu : i < us.length := by omega
    have hv : i < vs.length := by omega
    have hs := rd49_step (k1 := k1) (k2 := k2) (G := G) hu hv hm
    by_cases he : us[i] = vs[i]
    · rw [if_pos he] at hs
      have ih := loop49 (k1 := k1) (k2 := k2) (G := G) hl hm d (i + 1) (by omega)
      have e : decide (us.drop i = vs.drop i) = decide (us.drop (i + 1) = vs.drop (i + 1)) := by
        rw [decide_eq_decide, drop_iff hu hv]
        exact ⟨fun h => h.2, fun h => ⟨he, h⟩⟩
      rw [e]
      exact LoopTo.more (orc := tinF 0) (lo := noLo) (fun _ _ _ _ h => h) (LoOk2.no _) hs ih
    · rw [if_neg he] at hs
      have e : decide (us.drop i = vs.drop i) = false := by
        rw [decide_eq_false_iff_not, drop_iff hu hv]
        exact fun h => he h.1
      rw [e]
      exact LoopTo.last (orc := tinF 0) (lo := noLo) (fun _ _ _ _ h => h) (LoOk2.no _) hs (by intro h; cases h)

/-! ### the functions of lists -/
noncomputable def lo48 (n : Nat) (st : St) : Tr (Ex × St) := match n with
  | 4 => tloB TT (tinF 0).runs H48 lp48 (outB 26 st.mem.G) st
  | _ => .fail
noncomputable def lo49 (n : Nat) (st : St) : Tr (Ex × St) := match n with
  | 4 => tloB TT (tinF 0).runs H49 lp49 (outB 26 st.mem.G) st
  | _ => .fail
noncomputable def f48t (k1 k2 : LK) (xs ys : Row) (G : List Ent) : Tr (AV × List Ent) := tfn TT (tinF 0) lo48 Go.Proofs.Try.f48 [.dat (.list k1 1 xs), .dat (.list k2 1 ys)] G
noncomputable def f49t (k1 k2 : LK) (xs ys : Row) (G : List Ent) : Tr (AV × List Ent) := tfn TT (tinF 0) lo49 Go.Proofs.Try.f49 [.dat (.list k1 1 xs), .dat (.list k2 1 ys)] G

end Go.Eng
