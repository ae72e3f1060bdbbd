/- What the lists' loops come to. -/
import Derived.Test.YtkconbpjimjbnaaSh19
import Derived.Test.YtkconbpjimjbnaaSh17
import Derived.IntWalk
section
namespace Go.Eng
open Go
set_option maxRecDepth 100000

theorem rd48_eq (k1 k2 : LK) (xs ys : Row) (G : List Ent) (n i : Int) : (rd48 k1 k2 xs ys G n i).ev =
  (rAsk (decide (i < n))
   (rAsk (true && ((decide ((0 : Int) ≤ i)) && (decide (i < (((List.length xs) : Nat) : Int)))))
    (rGet xs[(Int.toNat i)]? fun x1 =>
     (rGet (List.head? (List.drop 0 x1)) fun x2 =>
      (rAsk (true && ((decide ((0 : Int) ≤ i)) && (decide (i < (((List.length ys) : Nat) : Int)))))
       (rGet ys[(Int.toNat i)]? fun x3 =>
        (rGet (List.head? (List.drop 0 x3)) fun x4 =>
         (rGet (D.int? IntKind.i64 x2) fun x5 =>
          (rGet (D.int? IntKind.i64 x4) fun x6 =>
           (rAsk (x5 != x6)
            (some (Ex.ret, (St.mk (mkT 0 26 [(4, (AV.dat (D.bool false)))]) (Mem.mk [] G 0))))
            (some (Ex.norm, (St.mk (mkT 0 26 [(0, (AV.dat (D.list k1 1 xs))), (1, (AV.dat (D.list k2 1 ys))), (12, (AV.dat (D.int IntKind.i64 n))), (13, (AV.dat (D.int IntKind.i64 (IntKind.wrap IntKind.i64 (i + (1 : Int))))))]) (Mem.mk [] G 0))))
           )
          )
         )
        )
       )
       none
      )
     )
    )
    none
   )
   (some ((Ex.exit 0), (St.mk (mkT 0 26 []) (Mem.mk [] G 0))))
  )
  := by kernel_rfl

theorem rd49_eq (k1 k2 : LK) (xs ys : Row) (G : List Ent) (i : Int) : (rd49 k1 k2 xs ys G i).ev =
  (rAsk (decide (i < (((List.length xs) : Nat) : Int)))
   (rAsk (true && ((decide ((0 : Int) ≤ i)) && (decide (i < (((List.length xs) : Nat) : Int)))))
    (rGet xs[(Int.toNat i)]? fun x1 =>
     (rGet (List.head? (List.drop 0 x1)) fun x2 =>
      (rAsk (true && ((decide ((0 : Int) ≤ i)) && (decide (i < (((List.length ys) : Nat) : Int)))))
       (rGet ys[(Int.toNat i)]? fun x3 =>
        (rGet (List.head? (List.drop 0 x3)) fun x4 =>
         (rGet (D.int? IntKind.i64 x2) fun x5 =>
          (rGet (D.int? IntKind.i64 x4) fun x6 =>
           (rAsk (x5 != x6)
            (some (Ex.ret, (St.mk (mkT 0 26 [(4, (AV.dat (D.bool false)))]) (Mem.mk [] G 0))))
            (some (Ex.norm, (St.mk (mkT 0 26 [(0, (AV.dat (D.list k1 1 xs))), (1, (AV.dat (D.list k2 1 ys))), (5, (AV.dat (D.int IntKind.i64 (IntKind.wrap IntKind.i64 (i + (1 : Int))))))]) (Mem.mk [] G 0))))
           )
          )
         )
        )
       )
       none
      )
     )
    )
    none
   )
   (some ((Ex.exit 0), (St.mk (mkT 0 26 []) (Mem.mk [] G 0))))
  )
  := by kernel_rfl

theorem encI_len (l : List Int) : (encI l).length = l.length := by simp [encI]

theorem encI_get {l : List Int} {i : Nat} {z : Int} (h : l[i]? = some z) : (encI l)[i]? = some [.int .i64 z] := by simp [encI, h]

theorem drop_split {α : Type} {l : List α} {i : Nat} (h : i < l.length) : l[i]? = some l[i] ∧ l.drop i = l[i] :: l.drop (i + 1) := ⟨by simp [h], List.drop_eq_getElem_cons h⟩

theorem drop_iff {α : Type} {l r : List α} {i : Nat} (h : i < l.length) (h2 : i < r.length) : l.drop i = r.drop i ↔ l[i] = r[i] ∧ l.drop (i + 1) = r.drop (i + 1) := by
  rw [(drop_split h).2, (drop_split h2).2]
  exact ⟨fun e => by injection e with e1 e2; exact ⟨e1, e2⟩, fun ⟨e1, e2⟩ => by rw [e1, e2]⟩

theorem wrap_id {n : Int} (h : -9223372036854775808 ≤ n ∧ n ≤ 9223372036854775807) : IntKind.wrap .i64 n = n := IntWalk.i64_in n h

theorem rd48_end {k1 k2 : LK} {us vs : List Int} {G : List Ent} : (rd48 k1 k2 (encI us) (encI vs) G us.length us.length).run = some (outB 26 G true) := by
  rw [← Tr.ev_run, rd48_eq]
  simp only [Int.lt_irrefl, decide_false, rAsk]
  rfl

theorem rd48_step {k1 k2 : LK} {us vs : List Int} {G : List Ent} {i : Nat} (hu : i < us.length) (hv : i < vs.length) (hm : us.length ≤ maxLen) :
    (rd48 k1 k2 (encI us) (encI vs) G us.length i).run = some (if us[i] = vs[i] then (.norm, inv48 k1 k2 (encI us) (encI vs) G us.length ((i + 1 : Nat) : Int)) else outB 26 G false) := by
  rw [← Tr.ev_run, rd48_eq]
  have h1 : decide ((i : Int) < (us.length : Int)) = true := decide_eq_true (by omega)
  have h2 : decide ((i : Int) < (((encI us).length : Nat) : Int)) = true := by rw [encI_len]; exact h1
  have h3 : decide ((i : Int) < (((encI vs).length : Nat) : Int)) = true := by rw [encI_len]; exact decide_eq_true (by omega)
  have h4 : decide ((0 : Int) ≤ (i : Int)) = true := decide_eq_true (by omega)
  have h5 := encI_get (drop_split hu).1
  have h6 := encI_get (drop_split hv).1
  have h7 : IntKind.wrap .i64 ((i : Int) + 1) = ((i + 1 : Nat) : Int) := by
    rw [wrap_id (by unfold maxLen at hm; omega)]; omega
  simp only [h1, h2, h3, h4, h7, Int.toNat_natCast, h5, h6, rAsk, rGet, Bool.and_self, List.drop_zero, List.head?_cons, D.int?, if_true]
  by_cases he : us[i] = vs[i]
  · simp [he, inv48]
  · have : (us[i] != vs[i]) = true := by simpa using he
    simp only [this, if_neg he]
    rfl

theorem loop48 {k1 k2 : LK} {us vs : List Int} {G : List Ent} (hl : us.length = vs.length) (hm : us.length ≤ maxLen) : ∀ (d i : Nat), us.length = i + d →
    LoopTo TT (tinF 0).runs H48 lp48 (inv48 k1 k2 (encI us) (encI vs) G us.length i) (outB 26 G (decide (us.drop i = vs.drop i)))
  | 0, i, h => by
    have e : decide (us.drop i = vs.drop i) = true := decide_eq_true (by rw [List.drop_of_length_le (by omega), List.drop_of_length_le (by omega)])
    rw [e]
    obtain rfl : i = us.length := by omega
    exact LoopTo.last (orc := tinF 0) (lo := noLo) (fun _ _ _ _ h => h) (LoOk2.no _) rd48_end (by intro h; cases h)
  | d + 1, i, h => by
    have hu : i < us.length := by omega
    have hv : i < vs.length := by omega
    have hs := rd48_step (k1 := k1) (k2 := k2) (G := G) hu hv hm
    by_cases he : us[i] = vs[i]
    · rw [if_pos he] at hs
      have ih := loop48 (k1 := k1) (k2 := k2) (G := G) hl hm d (i + 1) (by omega)
      have e : decide (us.drop i = vs.drop i) = decide (us.drop (i + 1) = vs.drop (i + 1)) := by
        rw [decide_eq_decide, drop_iff hu hv]
        exact ⟨fun h => h.2, fun h => ⟨he, h⟩⟩
      rw [e]
      exact LoopTo.more (orc := tinF 0) (lo := noLo) (fun _ _ _ _ h => h) (LoOk2.no _) hs ih
    · rw [if_neg he] at hs
      have e : decide (us.drop i = vs.drop i) = false := by
        rw [decide_eq_false_iff_not, drop_iff hu hv]
        exact fun h => he h.1
      rw [e]
      exact LoopTo.last (orc := tinF 0) (lo := noLo) (fun _ _ _ _ h => h) (LoOk2.no _) hs (by intro h; cases h)

theorem rd49_end {k1 k2 : LK} {us vs : List Int} {G : List Ent} : (rd49 k1 k2 (encI us) (encI vs) G us.length).run = some (outB 26 G true) := by
  rw [← Tr.ev_run, rd49_eq]
  simp only [encI_len, Int.lt_irrefl, decide_false, rAsk]
  rfl

theorem rd49_step {k1 k2 : LK} {us vs : List Int} {G : List Ent} {i : Nat} (hu : i < us.length) (hv : i < vs.length) (hm : us.length ≤ maxLen) :
    (rd49 k1 k2 (encI us) (encI vs) G i).run = some (if us[i] = vs[i] then (.norm, inv49 k1 k2 (encI us) (encI vs) G ((i + 1 : Nat) : Int)) else outB 26 G false) := by
  rw [← Tr.ev_run, rd49_eq]
  have h2 : decide ((i : Int) < (((encI us).length : Nat) : Int)) = true := by rw [encI_len]; exact decide_eq_true (by omega)
  have h3 : decide ((i : Int) < (((encI vs).length : Nat) : Int)) = true := by rw [encI_len]; exact decide_eq_true (by omega)
  have h4 : decide ((0 : Int) ≤ (i : Int)) = true := decide_eq_true (by omega)
  have h5 := encI_get (drop_split hu).1
  have h6 := encI_get (drop_split hv).1
  have h7 : IntKind.wrap .i64 ((i : Int) + 1) = ((i + 1 : Nat) : Int) := by
    rw [wrap_id (by unfold maxLen at hm; omega)]; omega
  simp only [h2, h3, h4, h7, Int.toNat_natCast, h5, h6, rAsk, rGet, Bool.and_self, List.drop_zero, List.head?_cons, D.int?, if_true]
  by_cases he : us[i] = vs[i]
  · simp [he, inv49]
  · have : (us[i] != vs[i]) = true := by simpa using he
    simp only [this, if_neg he]
    rfl

theorem loop49 {k1 k2 : LK} {us vs : List Int} {G : List Ent} (hl : us.length = vs.length) (hm : us.length ≤ maxLen) : ∀ (d i : Nat), us.length = i + d →
    LoopTo TT (tinF 0).runs H49 lp49 (inv49 k1 k2 (encI us) (encI vs) G i) (outB 26 G (decide (us.drop i = vs.drop i)))
  | 0, i, h => by
    have e : decide (us.drop i = vs.drop i) = true := decide_eq_true (by rw [List.drop_of_length_le (by omega), List.drop_of_length_le (by omega)])
    rw [e]
    obtain rfl : i = us.length := by omega
    exact LoopTo.last (orc := tinF 0) (lo := noLo) (fun _ _ _ _ h => h) (LoOk2.no _) rd49_end (by intro h; cases h)
  | d + 1, i, h => by
    have hu : i < us.length := by omega
    have hv : i < vs.length := by omega
    have hs := rd49_step (k1 := k1) (k2 := k2) (G := G) hu hv hm
    by_cases he : us[i] = vs[i]
    · rw [if_pos he] at hs
      have ih := loop49 (k1 := k1) (k2 := k2) (G := G) hl hm d (i + 1) (by omega)
      have e : decide (us.drop i = vs.drop i) = decide (us.drop (i + 1) = vs.drop (i + 1)) := by
        rw [decide_eq_decide, drop_iff hu hv]
        exact ⟨fun h => h.2, fun h => ⟨he, h⟩⟩
      rw [e]
      exact LoopTo.more (orc := tinF 0) (lo := noLo) (fun _ _ _ _ h => h) (LoOk2.no _) hs ih
    · rw [if_neg he] at hs
      have e : decide (us.drop i = vs.drop i) = false := by
        rw [decide_eq_false_iff_not, drop_iff hu hv]
        exact fun h => he h.1
      rw [e]
      exact LoopTo.last (orc := tinF 0) (lo := noLo) (fun _ _ _ _ h => h) (LoOk2.no _) hs (by intro h; cases h)

/-! ### the functions of lists -/
noncomputable def lo48 (n : Nat) (st : St) : Tr (Ex × St) := match n with
  | 4 => tloB TT (tinF 0).runs H48 lp48 (outB 26 st.mem.G) st
  | _ => .fail
noncomputable def lo49 (n : Nat) (st : St) : Tr (Ex × St) := match n with
  | 4 => tloB TT (tinF 0).runs H49 lp49 (outB 26 st.mem.G) st
  | _ => .fail
noncomputable def f48t (k1 k2 : LK) (xs ys : Row) (G : List Ent) : Tr (AV × List Ent) := tfn TT (tinF 0) lo48 Go.Proofs.Try.f48 [.dat (.list k1 1 xs), .dat (.list k2 1 ys)] G
noncomputable def f49t (k1 k2 : LK) (xs ys : Row) (G : List Ent) : Tr (AV × List Ent) := tfn TT (tinF 0) lo49 Go.Proofs.Try.f49 [.dat (.list k1 1 xs), .dat (.list k2 1 ys)] G

end Go.Eng
end

/- What the functions of lists come to; the two functions of answers as trees. -/
section
namespace Go.Eng
open Go
set_option maxRecDepth 100000

theorem f48t_eq (k1 k2 : LK) (xs ys : Row) (G : List Ent) : (f48t k1 k2 xs ys G).ev =
  (rAsk ((((List.length xs) : Nat) : Int) != (((List.length ys) : Nat) : Int))
   (some ((AV.dat (D.bool false)), G))
   (rGet (loS TT (TOrc.runs (tinF 0)) H48 lp48 (outB 26 G) (St.mk (mkT 0 26 [(0, (AV.dat (D.list k1 1 xs))), (1, (AV.dat (D.list k2 1 ys))), (12, (AV.dat (D.int IntKind.i64 (((List.length xs) : Nat) : Int)))), (13, (AV.dat (D.int IntKind.i64 (0 : Int))))]) (Mem.mk [] G 0))) fun x1 =>
    (rAsk x1
     (some ((AV.dat (D.bool true)), G))
     (some ((AV.dat (D.bool false)), G))
    )
   )
  )
  := by kernel_rfl

theorem f49t_eq (k1 k2 : LK) (xs ys : Row) (G : List Ent) : (f49t k1 k2 xs ys G).ev =
  (rAsk ((((List.length xs) : Nat) : Int) != (((List.length ys) : Nat) : Int))
   (some ((AV.dat (D.bool false)), G))
   (rGet (loS TT (TOrc.runs (tinF 0)) H49 lp49 (outB 26 G) (St.mk (mkT 0 26 [(0, (AV.dat (D.list k1 1 xs))), (1, (AV.dat (D.list k2 1 ys))), (5, (AV.dat (D.int IntKind.i64 (0 : Int))))]) (Mem.mk [] G 0))) fun x1 =>
    (rAsk x1
     (some ((AV.dat (D.bool true)), G))
     (some ((AV.dat (D.bool false)), G))
    )
   )
  )
  := by kernel_rfl

theorem outB_inj {N : Nat} {G : List Ent} : ∀ x y, outB N G x = outB N G y → x = y := by
  intro x y h
  cases x <;> cases y <;> first | rfl | (simp [outB] at h)

theorem f48_run {k1 k2 : LK} {us vs : List Int} {G : List Ent} (hm : us.length ≤ maxLen) : (f48t k1 k2 (encI us) (encI vs) G).run = some (.dat (.bool (decide (us = vs))), G) := by
  rw [← Tr.ev_run, f48t_eq]
  simp only [encI_len]
  by_cases hl : us.length = vs.length
  · have h1 : (((us.length : Nat) : Int) != ((vs.length : Nat) : Int)) = false := by simp [hl]
    have h2 := loS_eq outB_inj (loop48 (k1 := k1) (k2 := k2) (G := G) hl hm us.length 0 (by omega))
    simp only [List.drop_zero] at h2
    have h3 : loS TT (tinF 0).runs H48 lp48 (outB 26 G) (inv48 k1 k2 (encI us) (encI vs) G us.length 0) = some (decide (us = vs)) := h2
    unfold inv48 at h3
    simp only [h1, rAsk, h3, rGet]
    cases decide (us = vs) <;> rfl
  · have h1 : (((us.length : Nat) : Int) != ((vs.length : Nat) : Int)) = true := by simp; omega
    have h2 : decide (us = vs) = false := decide_eq_false fun e => hl (by rw [e])
    simp only [h1, rAsk, h2]

theorem f49_run {k1 k2 : LK} {us vs : List Int} {G : List Ent} (hm : us.length ≤ maxLen) : (f49t k1 k2 (encI us) (encI vs) G).run = some (.dat (.bool (decide (us = vs))), G) := by
  rw [← Tr.ev_run, f49t_eq]
  simp only [encI_len]
  by_cases hl : us.length = vs.length
  · have h1 : (((us.length : Nat) : Int) != ((vs.length : Nat) : Int)) = false := by simp [hl]
    have h2 := loS_eq outB_inj (loop49 (k1 := k1) (k2 := k2) (G := G) hl hm us.length 0 (by omega))
    simp only [List.drop_zero] at h2
    have h3 : loS TT (tinF 0).runs H49 lp49 (outB 26 G) (inv49 k1 k2 (encI us) (encI vs) G 0) = some (decide (us = vs)) := h2
    unfold inv49 at h3
    simp only [h1, rAsk, h3, rGet]
    cases decide (us = vs) <;> rfl
  · have h1 : (((us.length : Nat) : Int) != ((vs.length : Nat) : Int)) = true := by simp; omega
    have h2 : decide (us = vs) = false := decide_eq_false fun e => hl (by rw [e])
    simp only [h1, rAsk, h2]

/-! ### contracts -/
noncomputable def R48 (a : List AV) (G : List Ent) : Option (AV × List Ent) := (tfn TT (tinF 0) lo48 Go.Proofs.Try.f48 a G).run
noncomputable def R49 (a : List AV) (G : List Ent) : Option (AV × List Ent) := (tfn TT (tinF 0) lo49 Go.Proofs.Try.f49 a G).run

def outb (G : List Ent) (b : Bool) : AV × List Ent := (.dat (.bool b), G)

theorem outb_inj {G : List Ent} : ∀ x y, outb G x = outb G y → x = y := by
  intro x y h
  simp only [outb, Prod.mk.injEq, AV.dat.injEq, D.bool.injEq, and_true] at h
  exact h

theorem tin0_ok : TOk Go.Proofs.Try.prog (tinF 0) := fun _ => COk.nothing fun _ _ => rfl

theorem lo48_ok : ∀ c, Go.Proofs.Try.f48.body = some c → LoOk2 TT (tinF 0).runs H48 lo48 c := by
  intro c hc
  refine LoOk2.of c fun b hb st r h => ?_
  have hcc : c = codeOf Go.Proofs.Try.f48 := by unfold codeOf; rw [hc]; rfl
  have hl : loops c = [lp48] := by rw [hcc]; kernel_rfl
  rw [hl] at hb
  obtain rfl := List.mem_singleton.1 hb
  rw [show firstRegion lp48 = 4 from by kernel_rfl] at h
  exact tloB_ok h

theorem lo49_ok : ∀ c, Go.Proofs.Try.f49.body = some c → LoOk2 TT (tinF 0).runs H49 lo49 c := by
  intro c hc
  refine LoOk2.of c fun b hb st r h => ?_
  have hcc : c = codeOf Go.Proofs.Try.f49 := by unfold codeOf; rw [hc]; rfl
  have hl : loops c = [lp49] := by rw [hcc]; kernel_rfl
  rw [hl] at hb
  obtain rfl := List.mem_singleton.1 hb
  rw [show firstRegion lp49 = 4 from by kernel_rfl] at h
  exact tloB_ok h

theorem c48 : COk Go.Proofs.Try.prog 48 R48 := tok_fn TT_ok tin0_ok Go.Proofs.Try.func48 (by kernel_rfl) lo48_ok
theorem c49 : COk Go.Proofs.Try.prog 49 R49 := tok_fn TT_ok tin0_ok Go.Proofs.Try.func49 (by kernel_rfl) lo49_ok

noncomputable def t1 : TOrc := tCons 48 (fun a G => tspec (outb G) (R48 a G)) (tCons 49 (fun a G => tspec (outb G) (R49 a G)) tNone)

theorem t1_ok : TOk Go.Proofs.Try.prog t1 := TOk.cons (COk.spec (out := fun _ G => outb G) c48) (TOk.cons (COk.spec (out := fun _ G => outb G) c49) TOk.nil)

/-- an answer -/
def ans (w n m : Int) (s : ByteArray) (k : LK) (xs : Row) : AV := .agg [.dat (.int .i64 w), .dat (.int .i64 n), .dat (.int .i64 m), .dat (.str s), .dat (.list k 1 xs)]

noncomputable def f24t (w n m : Int) (s : ByteArray) (k : LK) (xs : Row) (w' n' m' : Int) (s' : ByteArray) (k' : LK) (xs' : Row) (G : List Ent) : Tr (AV × List Ent) :=
  tfn TT t1 noLo Go.Proofs.Try.f24 [ans w n m s k xs, ans w' n' m' s' k' xs'] G
noncomputable def f25t (w n m : Int) (s : ByteArray) (k : LK) (xs : Row) (w' n' m' : Int) (s' : ByteArray) (k' : LK) (xs' : Row) (G : List Ent) : Tr (AV × List Ent) :=
  tfn TT t1 noLo Go.Proofs.Try.f25 [ans w n m s k xs, ans w' n' m' s' k' xs'] G

end Go.Eng
end

/- What the two functions of answers come to; the law as a tree. -/
section
namespace Go.Eng
open Go
set_option maxRecDepth 100000

theorem f24t_eq (w n m : Int) (s : ByteArray) (k : LK) (xs : Row) (w' n' m' : Int) (s' : ByteArray) (k' : LK) (xs' : Row) (G : List Ent) : (f24t w n m s k xs w' n' m' s' k' xs' G).ev =
  (rAsk (w == w')
   (rAsk (n == n')
    (rAsk (m == m')
     (rAsk ((ByteArray.toList s) == (ByteArray.toList s'))
      (rGet (fnS (fun (b : Bool) => ((AV.dat (D.bool b)), G)) (R48 [(AV.dat (D.list k 1 xs)), (AV.dat (D.list k' 1 xs'))] G)) fun x1 =>
       (some ((AV.dat (D.bool x1)), G))
      )
      (some ((AV.dat (D.bool false)), G))
     )
     (some ((AV.dat (D.bool false)), G))
    )
    (some ((AV.dat (D.bool false)), G))
   )
   (some ((AV.dat (D.bool false)), G))
  )
  := by kernel_rfl

theorem f25t_eq (w n m : Int) (s : ByteArray) (k : LK) (xs : Row) (w' n' m' : Int) (s' : ByteArray) (k' : LK) (xs' : Row) (G : List Ent) : (f25t w n m s k xs w' n' m' s' k' xs' G).ev =
  (rAsk (w == w')
   (rAsk (n == n')
    (rAsk (m == m')
     (rAsk ((ByteArray.toList s) == (ByteArray.toList s'))
      (rGet (fnS (fun (b : Bool) => ((AV.dat (D.bool b)), G)) (R49 [(AV.dat (D.list k 1 xs)), (AV.dat (D.list k' 1 xs'))] G)) fun x1 =>
       (some ((AV.dat (D.bool x1)), G))
      )
      (some ((AV.dat (D.bool false)), G))
     )
     (some ((AV.dat (D.bool false)), G))
    )
    (some ((AV.dat (D.bool false)), G))
   )
   (some ((AV.dat (D.bool false)), G))
  )
  := by kernel_rfl

def alikeB (w n m : Int) (s : ByteArray) (us : List Int) (w' n' m' : Int) (s' : ByteArray) (us' : List Int) : Bool :=
  (w == w') && ((n == n') && ((m == m') && ((s.toList == s'.toList) && decide (us = us'))))

theorem f24_run {w n m : Int} {s : ByteArray} {k : LK} {us : List Int} {w' n' m' : Int} {s' : ByteArray} {k' : LK} {us' : List Int} {G : List Ent} (hm : us.length ≤ maxLen) :
    (f24t w n m s k (encI us) w' n' m' s' k' (encI us') G).run = some (.dat (.bool (alikeB w n m s us w' n' m' s' us')), G) := by
  rw [← Tr.ev_run, f24t_eq]
  have h := fnS_eq (out := outb G) outb_inj (show R48 [.dat (.list k 1 (encI us)), .dat (.list k' 1 (encI us'))] G = some (outb G (decide (us = us'))) from f48_run hm)
  unfold outb at h
  rw [h]
  unfold alikeB
  generalize (w == w') = b1
  generalize (n == n') = b2
  generalize (m == m') = b3
  generalize (s.toList == s'.toList) = b4
  cases b1 <;> cases b2 <;> cases b3 <;> cases b4 <;> rfl

theorem f25_run {w n m : Int} {s : ByteArray} {k : LK} {us : List Int} {w' n' m' : Int} {s' : ByteArray} {k' : LK} {us' : List Int} {G : List Ent} (hm : us.length ≤ maxLen) :
    (f25t w n m s k (encI us) w' n' m' s' k' (encI us') G).run = some (.dat (.bool (alikeB w n m s us w' n' m' s' us')), G) := by
  rw [← Tr.ev_run, f25t_eq]
  have h := fnS_eq (out := outb G) outb_inj (show R49 [.dat (.list k 1 (encI us)), .dat (.list k' 1 (encI us'))] G = some (outb G (decide (us = us'))) from f49_run hm)
  unfold outb at h
  rw [h]
  unfold alikeB
  generalize (w == w') = b1
  generalize (n == n') = b2
  generalize (m == m') = b3
  generalize (s.toList == s'.toList) = b4
  cases b1 <;> cases b2 <;> cases b3 <;> cases b4 <;> rfl

/-! ### contracts -/
noncomputable def R24 (a : List AV) (G : List Ent) : Option (AV × List Ent) := (tfn TT t1 noLo Go.Proofs.Try.f24 a G).run
noncomputable def R25 (a : List AV) (G : List Ent) : Option (AV × List Ent) := (tfn TT t1 noLo Go.Proofs.Try.f25 a G).run

theorem c24 : COk Go.Proofs.Try.prog 24 R24 := tok_fn (H := fun _ => []) TT_ok t1_ok Go.Proofs.Try.func24 (by kernel_rfl) fun _ _ => LoOk2.no _
theorem c25 : COk Go.Proofs.Try.prog 25 R25 := tok_fn (H := fun _ => []) TT_ok t1_ok Go.Proofs.Try.func25 (by kernel_rfl) fun _ _ => LoOk2.no _

noncomputable def HH (f n : Nat) : List Nat := match FT f with
  | some fn => ((liveF fn).lookup n).getD []
  | none => []
noncomputable def R18 (a : List AV) (G : List Ent) : Option (AV × List Ent) := orcN FT TT 300 HH 8 18 a G
theorem c18 : COk Go.Proofs.Try.prog 18 R18 := orcN_ok (K := 300) (H := HH) TT_ok (FT := FT) (fun _ _ h => FT_ok h) 8 18

def out18 (G' : List Ent) : AV × List Ent := (.dat (.bool true), G')
theorem out18_inj : ∀ x y, out18 x = out18 y → x = y := by
  intro x y h
  simp only [out18, Prod.mk.injEq, true_and] at h
  exact h

noncomputable def t2 : TOrc := tCons 24 (fun a G => tspec (outb G) (R24 a G)) (tCons 25 (fun a G => tspec (outb G) (R25 a G)) (tCons 18 (fun a G => tspec out18 (R18 a G)) tNone))

theorem t2_ok : TOk Go.Proofs.Try.prog t2 := TOk.cons (COk.spec (out := fun _ G => outb G) c24) (TOk.cons (COk.spec (out := fun _ G => outb G) c25) (TOk.cons (COk.spec (out := fun _ _ => out18) c18) TOk.nil))

noncomputable def f5t (w n m : Int) (s : ByteArray) (k : LK) (xs : Row) (w' n' m' : Int) (s' : ByteArray) (k' : LK) (xs' : Row) : Tr (AV × List Ent) :=
  tfn TT t2 noLo Go.Proofs.Try.f5 [ans w n m s k xs, ans w' n' m' s' k' xs'] []

end Go.Eng
end

/- ScriptAlike answers true at any two answers. -/
section
namespace Go.Eng
open Go
set_option maxRecDepth 100000

theorem f5t_eq (w n m : Int) (s : ByteArray) (k : LK) (xs : Row) (w' n' m' : Int) (s' : ByteArray) (k' : LK) (xs' : Row) : (f5t w n m s k xs w' n' m' s' k' xs').ev =
  (rGet (fnS (fun (b : Bool) => ((AV.dat (D.bool b)), [])) (R24 [(AV.agg [(AV.dat (D.int IntKind.i64 w)), (AV.dat (D.int IntKind.i64 n)), (AV.dat (D.int IntKind.i64 m)), (AV.dat (D.str s)), (AV.dat (D.list k 1 xs))]), (AV.agg [(AV.dat (D.int IntKind.i64 w')), (AV.dat (D.int IntKind.i64 n')), (AV.dat (D.int IntKind.i64 m')), (AV.dat (D.str s')), (AV.dat (D.list k' 1 xs'))])] [])) fun x1 =>
   (rGet (fnS (fun (b : Bool) => ((AV.dat (D.bool b)), [])) (R25 [(AV.agg [(AV.dat (D.int IntKind.i64 w)), (AV.dat (D.int IntKind.i64 n)), (AV.dat (D.int IntKind.i64 m)), (AV.dat (D.str s)), (AV.dat (D.list k 1 xs))]), (AV.agg [(AV.dat (D.int IntKind.i64 w')), (AV.dat (D.int IntKind.i64 n')), (AV.dat (D.int IntKind.i64 m')), (AV.dat (D.str s')), (AV.dat (D.list k' 1 xs'))])] [])) fun x2 =>
    (rAsk (x1 == x2)
     (rGet (fnS (fun (b : Bool) => ((AV.dat (D.bool b)), [])) (R24 [(AV.agg [(AV.dat (D.int IntKind.i64 w)), (AV.dat (D.int IntKind.i64 n)), (AV.dat (D.int IntKind.i64 m)), (AV.dat (D.str s)), (AV.dat (D.list k 1 xs))]), (AV.agg [(AV.dat (D.int IntKind.i64 w)), (AV.dat (D.int IntKind.i64 n)), (AV.dat (D.int IntKind.i64 m)), (AV.dat (D.str s)), (AV.dat (D.list k 1 xs))])] [])) fun x3 =>
      (rAsk x3
       (rGet (fnS (fun (G' : List Ent) => ((AV.dat (D.bool true)), G')) (R18 [] [])) fun x4 =>
        (some ((AV.dat (D.bool true)), x4))
       )
       (some ((AV.dat (D.bool false)), []))
      )
     )
     (some ((AV.dat (D.bool false)), []))
    )
   )
  )
  := by kernel_rfl

theorem known_ev : (orcN FT TT 300 HH 8 18 [] []).map (·.1) = some (.dat (.bool true)) := by kernel_rfl

theorem known_run : ∃ G', R18 [] [] = some (out18 G') := by
  have := known_ev
  unfold R18
  cases ho : orcN FT TT 300 HH 8 18 [] [] with
  | none => rw [ho] at this; cases this
  | some r =>
    rw [ho] at this
    simp only [Option.map_some, Option.some.injEq] at this
    exact ⟨r.2, by rw [out18, ← this]⟩

theorem alike_self {w n m : Int} {s : ByteArray} {us : List Int} : alikeB w n m s us w n m s us = true := by simp [alikeB]

theorem f5_run {w n m : Int} {s : ByteArray} {k : LK} {us : List Int} {w' n' m' : Int} {s' : ByteArray} {k' : LK} {us' : List Int} (hm : us.length ≤ maxLen) :
    ∃ G', (f5t w n m s k (encI us) w' n' m' s' k' (encI us')).run = some (.dat (.bool true), G') := by
  rw [← Tr.ev_run, f5t_eq]
  have h1 := fnS_eq (out := outb []) outb_inj (show R24 [ans w n m s k (encI us), ans w' n' m' s' k' (encI us')] [] = some (outb [] (alikeB w n m s us w' n' m' s' us')) from f24_run hm)
  have h2 := fnS_eq (out := outb []) outb_inj (show R25 [ans w n m s k (encI us), ans w' n' m' s' k' (encI us')] [] = some (outb [] (alikeB w n m s us w' n' m' s' us')) from f25_run hm)
  have h3 := fnS_eq (out := outb []) outb_inj (show R24 [ans w n m s k (encI us), ans w n m s k (encI us)] [] = some (outb [] (alikeB w n m s us w n m s us)) from f24_run hm)
  rw [alike_self] at h3
  obtain ⟨G', hG⟩ := known_run
  have h4 := fnS_eq (out := out18) out18_inj hG
  unfold outb ans at h1 h2 h3
  unfold out18 at h4
  refine ⟨G', ?_⟩
  rw [h1, h2, h3, h4]
  simp only [rGet, rAsk, beq_self_eq_true]

theorem ans_of {ds : List D} (h : Ty Go.Proofs.Try.prog 4 55 ds) : ∃ w n m s k us, argAV Go.Proofs.Try.prog 55 ds = ans w n m s k (encI us) ∧ us.length ≤ maxLen := by
  have h := Ty.struct Go.Proofs.Try.underlying55 h
  obtain ⟨p1, q1, rfl, t1, p2, q2, rfl, t2, p3, q3, rfl, t3, p4, q4, rfl, t4, p5, q5, rfl, t5, hq⟩ := h
  cases hq
  obtain ⟨w, rfl, _⟩ := Ty.int Go.Proofs.Try.underlying30 t1
  obtain ⟨n, rfl, _⟩ := Ty.int Go.Proofs.Try.underlying2 t2
  obtain ⟨m, rfl, _⟩ := Ty.int Go.Proofs.Try.underlying2 t3
  obtain ⟨s, rfl, _⟩ := Ty.str Go.Proofs.Try.underlying9 t4
  obtain ⟨k, us, rfl, hm⟩ := Ty.ints Go.Proofs.Try.underlying53 Go.Proofs.Try.underlying3 (by kernel_rfl) t5
  refine ⟨w, n, m, s, k, us, ?_, hm⟩
  unfold argAV
  rw [if_pos (show aggT Go.Proofs.Try.prog 55 = true by kernel_rfl)]
  rfl

noncomputable def R5 (a : List AV) (G : List Ent) : Option (AV × List Ent) := (tfn TT t2 noLo Go.Proofs.Try.f5 a G).run
theorem c5 : COk Go.Proofs.Try.prog 5 R5 := tok_fn (H := fun _ => []) TT_ok t2_ok Go.Proofs.Try.func5 (by kernel_rfl) fun _ _ => LoOk2.no _

theorem spec5 : ∀ dss : List (List D), All2 (fun t d => Ty Go.Proofs.Try.prog 4 t d) Go.Proofs.Try.f5.params.toList dss → ∃ spec : Go.Eng.Spec, COk Go.Proofs.Try.prog 5 spec ∧ ∃ G', spec (List.zipWith (argAV Go.Proofs.Try.prog) Go.Proofs.Try.f5.params.toList dss) [] = some (.dat (.bool true), G') := by
  intro dss h
  rw [Go.Proofs.Try.params5] at h ⊢
  match dss, h with
  | [d1, d2], h =>
    obtain ⟨w, n, m, s, k, us, e1, hm⟩ := ans_of h.1
    obtain ⟨w', n', m', s', k', us', e2, _⟩ := ans_of h.2.1
    refine ⟨R5, c5, ?_⟩
    change ∃ G', R5 [argAV Go.Proofs.Try.prog 55 d1, argAV Go.Proofs.Try.prog 55 d2] [] = _
    rw [e1, e2]
    exact f5_run hm
  | [], h => exact h.elim
  | [_], h => exact h.2.elim
  | _ :: _ :: _ :: _, h => exact h.2.2.elim

end Go.Eng
end
