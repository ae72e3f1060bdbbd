/- Trace: what the loops come to. -/
import Derived.Test.YtkconbpjimjbnaaTpC
import Derived.Test.YtkconbpjimjbnaaEngTw
namespace Go.Eng
open Go
set_option maxRecDepth 100000

theorem ev14_eq (k1 k2 : LK) (s1 s2 : Nat) (xs ys : Row) (G : List Ent) (i : Int) : (ev14 k1 k2 s1 s2 xs ys G i).ev =
  (rAsk (decide (i < (((List.length xs) : Nat) : Int)))
   (rAsk ((decide (s1 = 4)) && ((decide ((0 : Int) ≤ i)) && (decide (i < (((List.length xs) : Nat) : Int)))))
    (rGet xs[(Int.toNat i)]? fun x1 =>
     (rGet (List.head? (List.drop 0 x1)) fun x2 =>
      (rGet (List.head? (List.tail (List.drop 0 x1))) fun x3 =>
       (rGet (List.head? (List.tail (List.tail (List.drop 0 x1)))) fun x4 =>
        (rGet (List.head? (List.tail (List.tail (List.tail (List.drop 0 x1))))) fun x5 =>
         (rAsk ((decide (s2 = 4)) && ((decide ((0 : Int) ≤ i)) && (decide (i < (((List.length ys) : Nat) : Int)))))
          (rGet ys[(Int.toNat i)]? fun x6 =>
           (rGet (List.head? (List.drop 0 x6)) fun x7 =>
            (rGet (List.head? (List.tail (List.drop 0 x6))) fun x8 =>
             (rGet (List.head? (List.tail (List.tail (List.drop 0 x6)))) fun x9 =>
              (rGet (List.head? (List.tail (List.tail (List.tail (List.drop 0 x6))))) fun x10 =>
               (rGet (D.int? IntKind.i64 x2) fun x11 =>
                (rGet (D.int? IntKind.i64 x7) fun x12 =>
                 (rGet (D.int? IntKind.i64 x3) fun x13 =>
                  (rGet (D.int? IntKind.i64 x8) fun x14 =>
                   (rGet (D.int? IntKind.i64 x4) fun x15 =>
                    (rGet (D.int? IntKind.i64 x9) fun x16 =>
                     (rGet (D.int? IntKind.i64 x5) fun x17 =>
                      (rGet (D.int? IntKind.i64 x10) fun x18 =>
                       (rAsk (!((x11 == x12) && ((x13 == x14) && ((x15 == x16) && ((x17 == x18) && true)))))
                        (some (Ex.ret, (St.mk (mkT 0 26 [(4, (AV.dat (D.bool false)))]) (Mem.mk [] G 0))))
                        (some (Ex.norm, (St.mk (mkT 0 26 [(0, (AV.dat (D.list k1 s1 xs))), (1, (AV.dat (D.list k2 s2 ys))), (5, (AV.dat (D.int IntKind.i64 (IntKind.wrap IntKind.i64 (i + (1 : Int))))))]) (Mem.mk [] G 0))))
                       )
                      )
                     )
                    )
                   )
                  )
                 )
                )
               )
              )
             )
            )
           )
          )
          none
         )
        )
       )
      )
     )
    )
    none
   )
   (some ((Ex.exit 0), (St.mk (mkT 0 26 []) (Mem.mk [] G 0))))
  )
  := by kernel_rfl

theorem f14t_eq (k1 k2 : LK) (s1 s2 : Nat) (xs ys : Row) (G : List Ent) : (f14t k1 k2 s1 s2 xs ys G).ev =
  (rAsk ((((List.length xs) : Nat) : Int) != (((List.length ys) : Nat) : Int))
   (some ((AV.dat (D.bool false)), G))
   (rGet (loS TT (TOrc.runs (tinF 0)) H14 lp14 (out14 G) (St.mk (mkT 0 26 [(0, (AV.dat (D.list k1 s1 xs))), (1, (AV.dat (D.list k2 s2 ys))), (5, (AV.dat (D.int IntKind.i64 (0 : Int))))]) (Mem.mk [] G 0))) fun x1 =>
    (some ((AV.dat (D.bool true)), G))
   )
  )
  := by kernel_rfl

theorem rof0_eq (k : Int) (o1 : Ent) (i n : Int) : (rof0 k o1 i n).ev =
  (rAsk (decide (i < (0 : Int)))
   (rAsk (decide (k ≥ (1 : Int)))
    (rAsk (decide (k ≤ (15 : Int)))
     none
     (some ((Ex.exit 0), (St.mk (mkT 0 37 [(5, (AV.dat (D.int IntKind.i64 n)))]) (Mem.mk [] [o1, (robj (AV.dat (D.list LK.nil 0 ([] : Row))))] 0))))
    )
    (some ((Ex.exit 0), (St.mk (mkT 0 37 [(5, (AV.dat (D.int IntKind.i64 n)))]) (Mem.mk [] [o1, (robj (AV.dat (D.list LK.nil 0 ([] : Row))))] 0))))
   )
   (some ((Ex.exit 0), (St.mk (mkT 0 37 [(5, (AV.dat (D.int IntKind.i64 n)))]) (Mem.mk [] [o1, (robj (AV.dat (D.list LK.nil 0 ([] : Row))))] 0))))
  )
  := by kernel_rfl

theorem rof1_eq (md : Mode) (xs : Row) (k : Int) (o1 : Ent) (i n : Int) : (rof1 md xs k o1 i n).ev =
  (rAsk (decide (i < (((List.length xs) : Nat) : Int)))
   (rAsk (decide (k ≥ (1 : Int)))
    (rAsk (decide (k ≤ (15 : Int)))
     (rAsk ((decide ((0 : Int) ≤ i)) && (decide (i < (((List.length xs) : Nat) : Int))))
      (rGet xs[(0 + (Int.toNat i))]? fun x1 =>
       (rGet (List.head? (List.drop 1 x1)) fun x2 =>
        (rGet (D.int? IntKind.i64 x2) fun x3 =>
         (rAsk (x3 == k)
          (some (Ex.norm, (St.mk (mkT 0 37 [(0, (AV.ptr (Ref.glob 1) 0)), (1, (AV.dat (D.int IntKind.i64 k))), (5, (AV.dat (D.int IntKind.i64 (IntKind.wrap IntKind.i64 (n + (1 : Int)))))), (6, (AV.dat (D.int IntKind.i64 (IntKind.wrap IntKind.i64 (i + (1 : Int))))))]) (Mem.mk [] [o1, (robj (AV.rowc md 4 xs))] 0))))
          (some (Ex.norm, (St.mk (mkT 0 37 [(0, (AV.ptr (Ref.glob 1) 0)), (1, (AV.dat (D.int IntKind.i64 k))), (5, (AV.dat (D.int IntKind.i64 n))), (6, (AV.dat (D.int IntKind.i64 (IntKind.wrap IntKind.i64 (i + (1 : Int))))))]) (Mem.mk [] [o1, (robj (AV.rowc md 4 xs))] 0))))
         )
        )
       )
      )
      none
     )
     (some ((Ex.exit 0), (St.mk (mkT 0 37 [(5, (AV.dat (D.int IntKind.i64 n)))]) (Mem.mk [] [o1, (robj (AV.rowc md 4 xs))] 0))))
    )
    (some ((Ex.exit 0), (St.mk (mkT 0 37 [(5, (AV.dat (D.int IntKind.i64 n)))]) (Mem.mk [] [o1, (robj (AV.rowc md 4 xs))] 0))))
   )
   (some ((Ex.exit 0), (St.mk (mkT 0 37 [(5, (AV.dat (D.int IntKind.i64 n)))]) (Mem.mk [] [o1, (robj (AV.rowc md 4 xs))] 0))))
  )
  := by kernel_rfl

theorem f17t0_eq (k : Int) (o1 : Ent) : (f17t0 k o1).ev =
  (rGet (loS TT (TOrc.runs (tinF 0)) H17 lp17 (out17 [o1, (robj (AV.dat (D.list LK.nil 0 ([] : Row))))]) (St.mk (mkT 0 37 [(0, (AV.ptr (Ref.glob 1) 0)), (1, (AV.dat (D.int IntKind.i64 k))), (5, (AV.dat (D.int IntKind.i64 (0 : Int)))), (6, (AV.dat (D.int IntKind.i64 (0 : Int))))]) (Mem.mk [] [o1, (robj (AV.dat (D.list LK.nil 0 ([] : Row))))] 0))) fun x1 =>
   (some ((AV.dat (D.int IntKind.i64 x1)), [o1, (robj (AV.dat (D.list LK.nil 0 ([] : Row))))]))
  )
  := by kernel_rfl

theorem f17t1_eq (md : Mode) (xs : Row) (k : Int) (o1 : Ent) : (f17t1 md xs k o1).ev =
  (rGet (loS TT (TOrc.runs (tinF 0)) H17 lp17 (out17 [o1, (robj (AV.rowc md 4 xs))]) (St.mk (mkT 0 37 [(0, (AV.ptr (Ref.glob 1) 0)), (1, (AV.dat (D.int IntKind.i64 k))), (5, (AV.dat (D.int IntKind.i64 (0 : Int)))), (6, (AV.dat (D.int IntKind.i64 (0 : Int))))]) (Mem.mk [] [o1, (robj (AV.rowc md 4 xs))] 0))) fun x1 =>
   (some ((AV.dat (D.int IntKind.i64 x1)), [o1, (robj (AV.rowc md 4 xs))]))
  )
  := by kernel_rfl

theorem rd21_eq (k : LK) (l : Row) (i : Int) (kx : LK) (sx : Nat) (ys : Row) (kk : Int) (kc : AV) (last : Int) (c : List D) (o2 : Ent) : (rd21 k l i kx sx ys kk kc last c o2).ev =
  (rAsk (decide (kk < (((List.length ys) : Nat) : Int)))
   (rAsk ((decide (sx = 4)) && ((decide ((0 : Int) ≤ kk)) && (decide (kk < (((List.length ys) : Nat) : Int)))))
    (rGet ys[(Int.toNat kk)]? fun x1 =>
     (rGet (List.head? (List.drop 0 x1)) fun x2 =>
      (rGet (D.int? IntKind.i64 x2) fun x3 =>
       (rAsk (x3 != (IntKind.wrap IntKind.i64 (last - (IntKind.wrap IntKind.i64 ((IntKind.wrap IntKind.i64 ((((List.length ys) : Nat) : Int) - (1 : Int))) - kk)))))
        (some (Ex.ret, (St.mk (mkT 0 114 [(0, (AV.dat (D.list k 5 l))), (2, (AV.dat (D.bool false))), (3, (AV.ptr (Ref.glob 0) 0)), (4, (AV.ptr (Ref.glob 1) 0)), (5, (AV.dat (D.int IntKind.i64 i)))]) (Mem.mk [] [(tobj kc last c), o2] 0))))
        (some (Ex.norm, (St.mk (mkT 0 114 [(0, (AV.dat (D.list k 5 l))), (3, (AV.ptr (Ref.glob 0) 0)), (4, (AV.ptr (Ref.glob 1) 0)), (5, (AV.dat (D.int IntKind.i64 i))), (7, (AV.dat (D.list kx sx ys))), (11, (AV.dat (D.int IntKind.i64 (IntKind.wrap IntKind.i64 (kk + (1 : Int))))))]) (Mem.mk [] [(tobj kc last c), o2] 0))))
       )
      )
     )
    )
    none
   )
   (some ((Ex.exit 3), (St.mk (mkT 0 114 [(0, (AV.dat (D.list k 5 l))), (3, (AV.ptr (Ref.glob 0) 0)), (4, (AV.ptr (Ref.glob 1) 0)), (5, (AV.dat (D.int IntKind.i64 i)))]) (Mem.mk [] [(tobj kc last c), o2] 0))))
  )
  := by kernel_rfl

/-- rows of events -/
def isEv (r : List D) : Prop := ∃ s k n w, r = evR s k n w

theorem tin0_okT : TOk Go.Proofs.Try.prog (tinF 0) := fun _ => COk.nothing fun _ _ => rfl

/-! ### two lists of events -/
theorem ev14_step {k1 k2 : LK} {s1 s2 : Nat} {Y : Row} {G : List Ent} {i : Nat} (hi : i < Y.length) (hev : ∀ r ∈ Y, isEv r) (h1 : s1 = 4) (h2 : s2 = 4) (hm : Y.length ≤ 900) :
    (ev14 k1 k2 s1 s2 Y Y G i).run = some (.norm, inv14 k1 k2 s1 s2 Y Y G ((i + 1 : Nat) : Int)) := by
  rw [← Tr.ev_run, ev14_eq]
  obtain ⟨s, k, n, w, hr⟩ := hev _ (List.getElem_mem hi)
  have g1 : Y[i]? = some (evR s k n w) := by rw [List.getElem?_eq_getElem hi, hr]
  have g2 : decide ((i : Int) < (Y.length : Int)) = true := decide_eq_true (by omega)
  have g3 : decide ((0 : Int) ≤ (i : Int)) = true := decide_eq_true (by omega)
  have g4 : IntKind.wrap .i64 ((i : Int) + 1) = ((i + 1 : Nat) : Int) := by rw [wrapI (by omega)]; omega
  simp only [g2, g3, g4, h1, h2, decide_true, Bool.and_self, Int.toNat_natCast, g1, rAsk, rGet, evR, List.drop_zero, List.head?_cons, List.tail_cons, D.int?, if_true, beq_self_eq_true, Bool.not_true]
  rfl

theorem ev14_end {k1 k2 : LK} {s1 s2 : Nat} {Y : Row} {G : List Ent} : (ev14 k1 k2 s1 s2 Y Y G Y.length).run = some (out14 G ()) := by
  rw [← Tr.ev_run, ev14_eq]
  simp only [Int.lt_irrefl, decide_false, rAsk]
  rfl

theorem loop14 {k1 k2 : LK} {s1 s2 : Nat} {Y : Row} {G : List Ent} (hev : ∀ r ∈ Y, isEv r) (h1 : Y = [] ∨ s1 = 4) (h2 : Y = [] ∨ s2 = 4) (hm : Y.length ≤ 900) : ∀ (d i : Nat), Y.length = i + d →
    LoopTo TT (tinF 0).runs H14 lp14 (inv14 k1 k2 s1 s2 Y Y G i) (out14 G ())
  | 0, i, h => by
    obtain rfl : i = Y.length := by omega
    exact LoopTo.last (orc := tinF 0) (lo := noLo) (fun _ _ _ _ h => h) (LoOk2.no _) ev14_end (by intro h; cases h)
  | d + 1, i, h => by
    have hi : i < Y.length := by omega
    have hne : Y ≠ [] := fun e => by rw [e] at hi; simp at hi
    have hs := ev14_step (k1 := k1) (k2 := k2) (G := G) hi hev (h1.resolve_left hne) (h2.resolve_left hne) hm
    exact LoopTo.more (orc := tinF 0) (lo := noLo) (fun _ _ _ _ h => h) (LoOk2.no _) hs (loop14 hev h1 h2 hm d (i + 1) (by omega))

theorem f14_run {k1 k2 : LK} {s1 s2 : Nat} {Y : Row} {G : List Ent} (hev : ∀ r ∈ Y, isEv r) (h1 : Y = [] ∨ s1 = 4) (h2 : Y = [] ∨ s2 = 4) (hm : Y.length ≤ 900) : (f14t k1 k2 s1 s2 Y Y G).run = some (.dat (.bool true), G) := by
  rw [← Tr.ev_run, f14t_eq]
  have g1 : (((Y.length : Nat) : Int) != ((Y.length : Nat) : Int)) = false := by simp
  have g2 := loS_eq (out := out14 G) (fun _ _ _ => rfl) (loop14 (k1 := k1) (k2 := k2) (G := G) hev h1 h2 hm Y.length 0 (by omega))
  have g3 : loS TT (tinF 0).runs H14 lp14 (out14 G) (inv14 k1 k2 s1 s2 Y Y G 0) = some () := g2
  unfold inv14 i64 at g3
  simp only [g1, rAsk, g3, rGet]

/-! ### how many of a kind -/
def kindOf : List D → Int
  | [_, .int _ k, _, _] => k
  | _ => 0

def cntK (X : Row) (k : Int) : Nat := (X.filter fun r => kindOf r == k).length

theorem cntK_snoc {X : Row} {s k n w j : Int} : cntK (X ++ [evR s k n w]) j = cntK X j + (if k = j then 1 else 0) := by
  unfold cntK
  rw [List.filter_append, List.length_append]
  congr 1
  by_cases h : k = j
  · simp [evR, kindOf, h]
  · simp [evR, kindOf, h]

theorem cntK_drop {X : Row} {i : Nat} (hi : i < X.length) {s k n w j : Int} (hr : X[i] = evR s k n w) : cntK (X.drop i) j = (if k = j then 1 else 0) + cntK (X.drop (i + 1)) j := by
  unfold cntK
  rw [List.drop_eq_getElem_cons hi, hr, List.filter_cons]
  by_cases h : k = j
  · simp [evR, kindOf, h, Nat.add_comm]
  · simp [evR, kindOf, h]

theorem cntK_le {X : Row} {j : Int} : cntK X j ≤ X.length := List.length_filter_le _ _

theorem rof1_step {md : Mode} {X : Row} {k : Int} {o1 : Ent} {i : Nat} {n : Int} (hi : i < X.length) (hev : ∀ r ∈ X, isEv r) (hk : 1 ≤ k ∧ k ≤ 15) (hm : X.length ≤ 900) (hn : 0 ≤ n ∧ n ≤ 2000) :
    ∃ a : Nat, (rof1 md X k o1 i n).run = some (.norm, inv17 (rowA md X) k o1 ((i + 1 : Nat) : Int) (n + a)) ∧ cntK (X.drop i) k = a + cntK (X.drop (i + 1)) k ∧ a ≤ 1 := by
  obtain ⟨s, k', n', w, hr⟩ := hev _ (List.getElem_mem hi)
  have g1 : X[i]? = some (evR s k' n' w) := by rw [List.getElem?_eq_getElem hi, hr]
  have g2 : decide ((i : Int) < (X.length : Int)) = true := decide_eq_true (by omega)
  have g3 : decide ((0 : Int) ≤ (i : Int)) = true := decide_eq_true (by omega)
  have g4 : IntKind.wrap .i64 ((i : Int) + 1) = ((i + 1 : Nat) : Int) := by rw [wrapI (by omega)]; omega
  have g5 : IntKind.wrap .i64 (n + 1) = n + 1 := wrapI (by omega)
  have g6 : decide (k ≥ (1 : Int)) = true := decide_eq_true (by omega)
  have g7 : decide (k ≤ (15 : Int)) = true := decide_eq_true (by omega)
  have hc := cntK_drop (j := k) hi hr
  by_cases he : k' = k
  · refine ⟨1, ?_, by rw [hc, if_pos he], Nat.le_refl _⟩
    rw [← Tr.ev_run, rof1_eq]
    have g8 : (k' == k) = true := by simpa using he
    simp only [g2, g3, g4, g5, g6, g7, Bool.and_self, Int.toNat_natCast, Nat.zero_add, g1, rAsk, rGet, evR, List.drop_succ_cons, List.drop_zero, List.head?_cons, D.int?, if_true, g8]
    rfl
  · refine ⟨0, ?_, by rw [hc, if_neg he], Nat.zero_le _⟩
    rw [← Tr.ev_run, rof1_eq]
    have g8 : (k' == k) = false := by simpa using he
    simp only [g2, g3, g4, g5, g6, g7, Bool.and_self, Int.toNat_natCast, Nat.zero_add, g1, rAsk, rGet, evR, List.drop_succ_cons, List.drop_zero, List.head?_cons, D.int?, if_true, g8]
    have : n + ((0 : Nat) : Int) = n := by omega
    rw [this]
    rfl

theorem loop17 {md : Mode} {X : Row} {k : Int} {o1 : Ent} (hev : ∀ r ∈ X, isEv r) (hk : 1 ≤ k ∧ k ≤ 15) (hm : X.length ≤ 900) : ∀ (d i : Nat) (n : Int), X.length = i + d → (0 ≤ n ∧ n ≤ i) →
    LoopTo TT (tinF 0).runs H17 lp17 (inv17 (rowA md X) k o1 i n) (out17 [o1, robj (rowA md X)] (n + cntK (X.drop i) k))
  | 0, i, n, h, _ => by
    obtain rfl : i = X.length := by omega
    have e : cntK (X.drop X.length) k = 0 := by rw [List.drop_length]; rfl
    rw [e]
    have hs : (rof1 md X k o1 X.length n).run = some (out17 [o1, robj (rowA md X)] (n + ((0 : Nat) : Int))) := by
      rw [← Tr.ev_run, rof1_eq]
      simp only [Int.lt_irrefl, decide_false, rAsk]
      have : n + ((0 : Nat) : Int) = n := by omega
      rw [this]
      rfl
    exact LoopTo.last (orc := tinF 0) (lo := noLo) (fun _ _ _ _ h => h) (LoOk2.no _) hs (by intro h; cases h)
  | d + 1, i, n, h, hn => by
    have hi : i < X.length := by omega
    obtain ⟨a, hs, hc, ha⟩ := rof1_step (md := md) (o1 := o1) (n := n) hi hev hk hm (by omega)
    have ih := loop17 (md := md) (o1 := o1) hev hk hm d (i + 1) (n + a) (by omega) (by omega)
    have e : n + ((cntK (X.drop i) k : Nat) : Int) = n + (a : Int) + ((cntK (X.drop (i + 1)) k : Nat) : Int) := by rw [hc]; omega
    rw [e]
    exact LoopTo.more (orc := tinF 0) (lo := noLo) (fun _ _ _ _ h => h) (LoOk2.no _) hs ih

theorem out17_inj {G : List Ent} : ∀ x y, out17 G x = out17 G y → x = y := by
  intro x y h
  simp only [out17, Prod.mk.injEq, true_and, St.mk.injEq, and_true] at h
  simp [mkT, i64] at h
  exact h

/-- the document's count -/
def cntO (X : Row) (k : Int) : Int := if 0 < k ∧ k < 16 then cntK X k else 0

theorem f17_run1 {md : Mode} {X : Row} {k : Int} {o1 : Ent} (hev : ∀ r ∈ X, isEv r) (hm : X.length ≤ 900) : (f17t1 md X k o1).run = some (i64 (cntO X k), [o1, robj (rowA md X)]) := by
  rw [← Tr.ev_run, f17t1_eq]
  have key : LoopTo TT (tinF 0).runs H17 lp17 (inv17 (rowA md X) k o1 0 0) (out17 [o1, robj (rowA md X)] (cntO X k)) := by
    by_cases hk : 1 ≤ k ∧ k ≤ 15
    · have := loop17 (md := md) (o1 := o1) hev hk hm X.length 0 0 (by omega) (by omega)
      have e : cntO X k = 0 + ((cntK (X.drop 0) k : Nat) : Int) := by
        unfold cntO
        rw [if_pos (by omega), List.drop_zero]
        omega
      rw [e]
      exact this
    · have e : cntO X k = 0 := by unfold cntO; rw [if_neg (by omega)]
      rw [e]
      have hs : (rof1 md X k o1 0 0).run = some (out17 [o1, robj (rowA md X)] 0) := by
        rw [← Tr.ev_run, rof1_eq]
        by_cases h0 : (0 : Int) < (X.length : Int)
        · by_cases h1 : k ≥ 1
          · have h2 : ¬ k ≤ 15 := by omega
            simp only [decide_eq_true h0, decide_eq_true h1, decide_eq_false h2, rAsk]
            rfl
          · simp only [decide_eq_true h0, decide_eq_false h1, rAsk]
            rfl
        · simp only [decide_eq_false h0, rAsk]
          rfl
      exact LoopTo.last (orc := tinF 0) (lo := noLo) (fun _ _ _ _ h => h) (LoOk2.no _) hs (by intro h; cases h)
  have g := loS_eq (out := out17 [o1, robj (rowA md X)]) out17_inj key
  unfold inv17 i64 pR rowA at g
  simp only [g, rGet]
  rfl

theorem f17_run0 {k : Int} {o1 : Ent} : (f17t0 k o1).run = some (i64 0, [o1, robj nilA]) := by
  rw [← Tr.ev_run, f17t0_eq]
  have key : LoopTo TT (tinF 0).runs H17 lp17 (inv17 nilA k o1 0 0) (out17 [o1, robj nilA] 0) := by
    have hs : (rof0 k o1 0 0).run = some (out17 [o1, robj nilA] 0) := by
      rw [← Tr.ev_run, rof0_eq]
      simp only [Int.lt_irrefl, decide_false, rAsk]
      rfl
    exact LoopTo.last (orc := tinF 0) (lo := noLo) (fun _ _ _ _ h => h) (LoOk2.no _) hs (by intro h; cases h)
  have g := loS_eq (out := out17 [o1, robj nilA]) out17_inj key
  unfold inv17 i64 pR nilA at g
  simp only [g, rGet]
  rfl

/-! ### numbers that rise by one -/
/-- the numbers from a place on -/
def rises (Y : Row) (last : Int) : Prop := ∀ (j : Nat) (h : j < Y.length), ∃ k n w, Y[j] = evR (last - ((Y.length : Int) - 1 - j)) k n w

theorem loop21 {lo : Nat → St → Tr (Ex × St)} {k : LK} {l : Row} {i : Int} {kx : LK} {sx : Nat} {Y : Row} {kc : AV} {last : Int} {c : List D} {o2 : Ent} (hsx : Y = [] ∨ sx = 4) (hr : rises Y last) (hm : Y.length ≤ 900) (hla : 0 ≤ last ∧ last ≤ 1000) : ∀ (d j : Nat), Y.length = j + d →
    LoopTo TT tL.runs H3 lp21 (inv21 k l i kx sx Y j kc last c o2) (out21 (.dat (.list k 5 l)) pT pR (i64 i) [tobj kc last c, o2] ())
  | 0, j, h => by
    obtain rfl : j = Y.length := by omega
    have hs : (rd21 k l i kx sx Y Y.length kc last c o2).run = some (out21 (.dat (.list k 5 l)) pT pR (i64 i) [tobj kc last c, o2] ()) := by
      rw [← Tr.ev_run, rd21_eq]
      simp only [Int.lt_irrefl, decide_false, rAsk]
      rfl
    exact LoopTo.last (orc := tL) (lo := noLo) (fun _ _ _ _ h => h) (LoOk2.no _) hs (by intro h; cases h)
  | d + 1, j, h => by
    have hj : j < Y.length := by omega
    obtain ⟨k', n', w', hy⟩ := hr j hj
    have g0 : sx = 4 := hsx.resolve_left fun e => by rw [e] at hj; simp at hj
    have g1 : Y[j]? = some (evR (last - ((Y.length : Int) - 1 - j)) k' n' w') := by rw [List.getElem?_eq_getElem hj, hy]
    have g2 : decide ((j : Int) < (Y.length : Int)) = true := decide_eq_true (by omega)
    have g3 : decide ((0 : Int) ≤ (j : Int)) = true := decide_eq_true (by omega)
    have g4 : IntKind.wrap .i64 ((j : Int) + 1) = ((j + 1 : Nat) : Int) := by rw [wrapI (by omega)]; omega
    have g5 : IntKind.wrap .i64 ((Y.length : Int) - 1) = (Y.length : Int) - 1 := wrapI (by omega)
    have g6 : IntKind.wrap .i64 ((Y.length : Int) - 1 - j) = (Y.length : Int) - 1 - j := wrapI (by omega)
    have g7 : IntKind.wrap .i64 (last - ((Y.length : Int) - 1 - j)) = last - ((Y.length : Int) - 1 - j) := wrapI (by omega)
    have hs : (rd21 k l i kx sx Y j kc last c o2).run = some (.norm, inv21 k l i kx sx Y ((j + 1 : Nat) : Int) kc last c o2) := by
      rw [← Tr.ev_run, rd21_eq]
      have g8 : ((last - ((Y.length : Int) - 1 - j)) != (last - ((Y.length : Int) - 1 - j))) = false := by simp
      simp only [g0, g2, g3, g4, g5, g6, g7, decide_true, Bool.and_self, Int.toNat_natCast, g1, rAsk, rGet, evR, List.drop_zero, List.head?_cons, D.int?, if_true, g8]
      rfl
    exact LoopTo.more (orc := tL) (lo := noLo) (fun _ _ _ _ h => h) (LoOk2.no _) hs (loop21 (lo := lo) hsx hr hm hla d (j + 1) (by omega))

end Go.Eng
