/- Sectors out of short texts: the document's words and digits. -/
import Derived.Test.YtnbdibeainhnhaaDoorSs24
section
namespace Go.Eng
open Go
set_option maxRecDepth 100000
set_option linter.unusedSimpArgs false

/-! ### digits -/
def intOf (o : Option AV) : Option Int := match o with
  | some (.dat (.int .i64 n)) => some n
  | _ => none
theorem e46_all : (List.range 256).all (fun k => intOf ((E 46 [.dat (.int .u8 k)] []).map (·.1)) == some (digL (UInt8.ofNat k))) = true := by kernel_rfl
theorem intOf_some {o : Option AV} {n : Int} (h : intOf o = some n) : o = some (.dat (.int .i64 n)) := by
  unfold intOf at h
  split at h
  · simp only [Option.some.injEq] at h
    subst h
    rfl
  · cases h
theorem p46 (c : UInt8) (G : List Ent) : P46 [.dat (.int .u8 ((c.toNat : Nat) : Int))] G = some (oI G (digL c)) := by
  have h := eq_of_beq (List.all_eq_true.1 e46_all c.toNat (List.mem_range.2 c.toNat_lt))
  rw [show UInt8.ofNat c.toNat = c by simp] at h
  obtain ⟨G', h⟩ := map_fst (intOf_some h)
  exact pureS_eq rfl h rfl
theorem out29a_inj {a0 : AV} : ∀ x y, out29a a0 x = out29a a0 y → x = y := by
  intro x y h
  simp [out29a] at h
  exact h
theorem out29b_inj {a0 : AV} : ∀ x y, out29b a0 x = out29b a0 y → x = y := fun _ _ _ => rfl
theorem out29_no {a0 : AV} {y : Unit} : ∀ x, out29a a0 x ≠ out29b a0 y := fun x h => by simp [out29a, out29b] at h
def valR (a b : Int) : Int := IntKind.wrap IntKind.u8 (IntKind.wrap IntKind.i64 ((IntKind.wrap IntKind.i64 ((16 : Int) * a)) + b))
attribute [local irreducible] fnS loS tround P46
theorem go29n (s : ByteArray) (i : Int) {o} (h : (rk29n s i).ev = o) : (tround TT t29 noLo (HSm 29) lp29 (inv29n s i)).run = o := by
  rw [Tr.ev_run] at h
  exact h
theorem go29y (s : ByteArray) (v i : Int) {o} (h : (rk29y s v i).ev = o) : (tround TT t29 noLo (HSm 29) lp29 (inv29y s v i)).run = o := by
  rw [Tr.ev_run] at h
  exact h
theorem loop29 (a b : UInt8) : if digL a < 0 ∨ digL b < 0 then LoopTo TT t29.runs (HSm 29) lp29 (inv29n (ba [a, b]) 0) (out29b (.dat (.str (ba [a, b]))) ())
    else LoopTo TT t29.runs (HSm 29) lp29 (inv29n (ba [a, b]) 0) (out29a (.dat (.str (ba [a, b]))) (valR (digL a) (digL b))) := by
  have ea := fnS_eq (out := oI []) oI_inj (p46 a [])
  have eb := fnS_eq (out := oI []) oI_inj (p46 b [])
  have w1 : IntKind.wrap .i64 ((0 : Int) + 1) = 1 := by decide
  by_cases h1 : digL a < 0
  · rw [if_pos (.inl h1)]
    refine LoopTo.last (orc := t29) (lo := noLo) (fun _ _ _ _ h => h) (LoOk2.no _) (go29n _ _ ?_) (by simp [out29b])
    rw [rk29n_eq, w1]
    exact aT rfl (aT rfl (gStep (x := a) rfl (gStep ea (aT rfl (gStep (x := b) rfl (gStep eb (aT (decide_eq_true h1) rfl)))))))
  by_cases h2 : digL b < 0
  · rw [if_pos (.inr h2)]
    refine LoopTo.last (orc := t29) (lo := noLo) (fun _ _ _ _ h => h) (LoOk2.no _) (go29n _ _ ?_) (by simp [out29b])
    rw [rk29n_eq, w1]
    exact aT rfl (aT rfl (gStep (x := a) rfl (gStep ea (aT rfl (gStep (x := b) rfl (gStep eb (aF (decide_eq_false h1) (aT (decide_eq_true h2) rfl))))))))
  · rw [if_neg (by omega)]
    refine LoopTo.more (orc := t29) (lo := noLo) (s1 := inv29y (ba [a, b]) (valR (digL a) (digL b)) 2) (fun _ _ _ _ h => h) (LoOk2.no _) (go29n _ _ ?_) (LoopTo.last (orc := t29) (lo := noLo) (fun _ _ _ _ h => h) (LoOk2.no _) (go29y _ _ _ ?_) (by simp [out29a]))
    · rw [rk29n_eq, w1]
      exact aT rfl (aT rfl (gStep (x := a) rfl (gStep ea (aT rfl (gStep (x := b) rfl (gStep eb (aF (decide_eq_false h1) (aF (decide_eq_false h2) rfl))))))))
    · rw [rk29y_eq]
      exact aF rfl rfl
theorem f29_run (a b : UInt8) : R29 [.dat (.str (ba [a, b]))] [] = some (oPt [] (if digL a < 0 ∨ digL b < 0 then (ba [], false) else (ba [byteR (digL a) (digL b)], true))) := by
  have key : ∀ o, (f29t (ba [a, b])).ev = o → R29 [.dat (.str (ba [a, b]))] [] = o := fun o h => by
    rw [Tr.ev_run] at h
    exact h
  refine key _ ?_
  rw [f29t_eq]
  have hl := loop29 a b
  split at hl
  · rename_i h
    rw [if_pos h]
    exact aF (loS_no (o1 := out29a (.dat (.str (ba [a, b])))) hl out29_no) (gStep (loS_eq (out := out29b (.dat (.str (ba [a, b])))) out29b_inj hl) rfl)
  · rename_i h
    rw [if_neg h]
    exact aT (loS_yes (o1 := out29a (.dat (.str (ba [a, b])))) out29a_inj hl) (gStep (loS_eq (out := out29a (.dat (.str (ba [a, b])))) out29a_inj hl) (by
      rw [show ((Int.tmod (((ByteArray.size (ba [a, b])) : Nat) : Int) (2 : Int)) == (0 : Int)) = true by rw [ba_sz]; show (Int.tmod 2 2 == 0) = true; decide]
      rfl))
theorem p29 (a b : UInt8) (G : List Ent) : P29 [.dat (.str (ba [a, b]))] G = some (oPt G (if digL a < 0 ∨ digL b < 0 then (ba [], false) else (ba [byteR (digL a) (digL b)], true))) := pureS_eq rfl (f29_run a b) rfl

/-! ### words -/
/-- bytes put behind what is there -/
def glue (w : List UInt8) : List (List UInt8) → List (List UInt8)
  | [] => [w]
  | h :: t => (w ++ h) :: t
theorem glue_nil (t : List UInt8) : glue [] (cutsL 32 t) = cutsL 32 t := by
  cases h : cutsL 32 t with
  | nil =>
    cases t with
    | nil => simp [cutsL] at h
    | cons c l =>
      unfold cutsL at h
      split at h
      · cases h
      · split at h <;> cases h
  | cons a l => rfl
theorem glue_gap (w : List UInt8) (t : List UInt8) : glue w (cutsL 32 (32 :: t)) = w :: cutsL 32 t := by
  simp [cutsL, glue]
theorem glue_byte (w : List UInt8) {c : UInt8} (h : c ≠ 32) (t : List UInt8) : glue w (cutsL 32 (c :: t)) = glue (w ++ [c]) (cutsL 32 t) := by
  rw [cutsL, if_neg h]
  cases cutsL 32 t with
  | nil => rfl
  | cons a l => simp [glue]
theorem out28_inj {b : Bool} : ∀ x y, out28 b x = out28 b y → x = y := by
  rintro ⟨x, n⟩ ⟨y, m⟩ h
  simp [out28, mkT] at h
  obtain ⟨rfl, rfl⟩ := h
  rfl
theorem out28_no {y : Row × Nat} : ∀ x, out28 true x ≠ out28 false y := fun x h => by simp [out28, mkT] at h
theorem go28t (s : ByteArray) (l : Row) (n : Nat) (i : Int) {o} (h : (rk28t s l n i).ev = o) : (tround TT tNone noLo (HSm 28) lp28 (inv28 true s l n i)).run = o := by
  rw [Tr.ev_run] at h
  exact h
theorem go28f (s : ByteArray) (l : Row) (n : Nat) (i : Int) {o} (h : (rk28f s l n i).ev = o) : (tround TT tNone noLo (HSm 28) lp28 (inv28 false s l n i)).run = o := by
  rw [Tr.ev_run] at h
  exact h
theorem sRow_app (ws : List (List UInt8)) (w : List UInt8) : sRow (ws ++ [w]) = sRow ws ++ [[.str (ba w)]] := by simp [sRow]
theorem sRow_len (ws : List (List UInt8)) : (sRow ws).length = ws.length := by simp [sRow]
theorem fits_str {n : Nat} (h : n ≤ 1000) : fits (TI.mk TK.str 1 16 [(AV.dat (D.str (ByteArray.mk (List.toArray []))))] true) n = true := by
  rw [fits_iff]
  omega
theorem step28 (b : Bool) (p t : List UInt8) (c : UInt8) (ws : List (List UInt8)) (w : List UInt8) (hl : (p ++ c :: t).length ≤ 500) (hw : w.length ≤ 500) (hn : ws.length ≤ 500) :
    (tround TT tNone noLo (HSm 28) lp28 (inv28 b (ba (p ++ c :: t)) (sRow (ws ++ [w])) (ws.length + 1) p.length)).run =
      some (.norm, if c = 32 then inv28 false (ba (p ++ c :: t)) (sRow (ws ++ [w] ++ [[]])) (ws.length + 1 + 1) ((p.length + 1 : Nat) : Int) else inv28 b (ba (p ++ c :: t)) (sRow (ws ++ [w ++ [c]])) (ws.length + 1) ((p.length + 1 : Nat) : Int)) := by
  have hlen : (p ++ c :: t).length = p.length + t.length + 1 := by rw [List.length_append, List.length_cons]; omega
  have a0 : decide ((0 : Int) ≤ ((p.length : Nat) : Int)) = true := by rw [decide_eq_true_eq]; omega
  have a1 : decide (((p.length : Nat) : Int) < (((ba (p ++ c :: t)).size : Nat) : Int)) = true := by rw [ba_sz, decide_eq_true_eq]; omega
  have wi : IntKind.wrap .i64 (((p.length : Nat) : Int) + 1) = ((p.length + 1 : Nat) : Int) := w64 (by omega) (by omega)
  have wn : IntKind.wrap .i64 (((ws.length + 1 : Nat) : Int) - 1) = ((ws.length : Nat) : Int) := w64 (by omega) (by omega)
  have hrow : (sRow (ws ++ [w])).length = ws.length + 1 := by rw [sRow_len]; simp
  have hat : (sRow (ws ++ [w]))[0 + Int.toNat ((ws.length : Nat) : Int)]? = some [.str (ba w)] := by
    rw [Int.toNat_natCast, Nat.zero_add]
    exact sRow_at (by simp)
  have b1 : ((decide ((0 : Int) ≤ ((ws.length : Nat) : Int))) && (decide (((ws.length : Nat) : Int) < ((ws.length + 1 : Nat) : Int)))) = true := by
    rw [Bool.and_eq_true, decide_eq_true_eq, decide_eq_true_eq]; omega
  have b2 : ((decide ((0 : Int) ≤ ((p.length : Nat) : Int))) && ((decide (((p.length : Nat) : Int) ≤ ((p.length + 1 : Nat) : Int))) && (decide (((p.length + 1 : Nat) : Int) ≤ (((ba (p ++ c :: t)).size : Nat) : Int))))) = true := by
    rw [ba_sz, Bool.and_eq_true, Bool.and_eq_true, decide_eq_true_eq, decide_eq_true_eq, decide_eq_true_eq]; omega
  have b3 : ((decide ((0 + (ws.length + 1)) ≤ (List.length (sRow (ws ++ [w]))))) && (fits (TI.mk TK.str 1 16 [(AV.dat (D.str (ByteArray.mk (List.toArray []))))] true) (ws.length + 1 + 1))) = true := by
    rw [Bool.and_eq_true, decide_eq_true_eq]
    exact ⟨by omega, fits_str (by omega)⟩
  have hx : (ba (p ++ c :: t)).extract (Int.toNat ((p.length : Nat) : Int)) (Int.toNat ((p.length + 1 : Nat) : Int)) = ba [c] := by
    rw [Int.toNat_natCast, Int.toNat_natCast, ba_one]
  have hset : List.set (sRow (ws ++ [w])) (0 + Int.toNat ((ws.length : Nat) : Int)) ((D.str (ba (w ++ [c]))) :: []) = sRow (ws ++ [w ++ [c]]) := by
    rw [Int.toNat_natCast, Nat.zero_add, sRow_app, sRow_app, List.set_append_right _ _ (by rw [sRow_len]; exact Nat.le_refl _), sRow_len, Nat.sub_self]
    rfl
  have hsz : Nat.ble ((ba w).size + (ba [c]).size) 9223372036854775807 = true := by
    rw [ba_sz, ba_sz]
    exact Nat.ble_eq_true_of_le (by simp only [List.length_singleton]; omega)
  by_cases hc : c = 32
  · subst hc
    rw [if_pos rfl]
    have htake : List.take (ws.length + 1) (List.drop 0 (sRow (ws ++ [w]))) = sRow (ws ++ [w]) := by
      rw [List.drop_zero, ← hrow, List.take_length]
    cases b with
    | true =>
      refine go28t _ _ _ _ ?_
      rw [rk28t_eq, wi, htake]
      refine aT a1 (aT a0 (gStep ba_mid (aT rfl (aT b3 ?_))))
      rw [sRow_app (ws ++ [w])]
      rfl
    | false =>
      refine go28f _ _ _ _ ?_
      rw [rk28f_eq, wi]
      refine aT a1 (aT a0 (gStep ba_mid (aT rfl (aT b3 (aT (by rw [hrow]; simp) ?_)))))
      rw [sRow_app (ws ++ [w])]
      rfl
  · rw [if_neg hc]
    have hne : ((((UInt8.toNat c) : Nat) : Int) == (32 : Int)) = false := by
      rw [beq_eq_false_iff_ne]
      intro h
      exact hc (UInt8.toNat_inj.1 (by show c.toNat = 32; omega))
    cases b with
    | true =>
      refine go28t _ _ _ _ ?_
      rw [rk28t_eq, wi, wn, hx]
      refine aT a1 (aT a0 (gStep ba_mid (aF hne (aT b1 (gStep hat (gStep rfl (aT b2 (gStep (x := ba w) rfl (aT hsz (aT b1 (gStep hat (aT rfl ?_))))))))))))
      rw [ba_app]
      simp only [List.drop_succ_cons, List.drop_zero, hset]
      rfl
    | false =>
      refine go28f _ _ _ _ ?_
      rw [rk28f_eq, wi, wn, hx]
      refine aT a1 (aT a0 (gStep ba_mid (aF hne (aT b1 (gStep hat (gStep rfl (aT b2 (gStep (x := ba w) rfl (aT hsz (aT b1 (gStep hat (aT rfl ?_))))))))))))
      rw [ba_app]
      simp only [List.drop_succ_cons, List.drop_zero, hset]
      rfl
theorem loop28 : ∀ (t p : List UInt8) (b : Bool) (ws : List (List UInt8)) (w : List UInt8), (p ++ t).length ≤ 500 → w.length + t.length ≤ 500 → ws.length + t.length ≤ 500 →
    ∃ b', LoopTo TT tNone.runs (HSm 28) lp28 (inv28 b (ba (p ++ t)) (sRow (ws ++ [w])) (ws.length + 1) p.length) (out28 b' (sRow (ws ++ glue w (cutsL 32 t)), (ws ++ glue w (cutsL 32 t)).length))
  | [], p, b, ws, w, _, _, _ => by
    have e : glue w (cutsL 32 []) = [w] := by simp [cutsL, glue]
    rw [e]
    refine ⟨b, LoopTo.last (orc := tNone) (lo := noLo) (fun _ _ _ _ h => h) (LoOk2.no _) ?_ (by simp [out28])⟩
    have a1 : decide (((p.length : Nat) : Int) < (((ba (p ++ [])).size : Nat) : Int)) = false := by rw [ba_sz, decide_eq_false_iff_not, List.append_nil]; omega
    have e2 : (ws ++ [w]).length = ws.length + 1 := by simp
    rw [e2]
    cases b with
    | true =>
      refine go28t _ _ _ _ ?_
      rw [rk28t_eq]
      exact aF a1 rfl
    | false =>
      refine go28f _ _ _ _ ?_
      rw [rk28f_eq]
      exact aF a1 rfl
  | c :: t, p, b, ws, w, hl, hw, hn => by
    simp only [List.length_cons] at hw hn
    have step := step28 b p t c ws w hl (by omega) (by omega)
    by_cases hc : c = 32
    · subst hc
      rw [if_pos rfl] at step
      obtain ⟨b', ih⟩ := loop28 t (p ++ [32]) false (ws ++ [w]) [] (by rw [List.append_assoc, List.singleton_append]; exact hl) (by simp only [List.length_nil]; omega) (by simp only [List.length_append, List.length_singleton]; omega)
      rw [show p ++ [32] ++ t = p ++ 32 :: t by simp, show List.length (p ++ [32]) = p.length + 1 by simp, show List.length (ws ++ [w]) = ws.length + 1 by simp, glue_nil] at ih
      rw [glue_gap]
      have e : ws ++ w :: cutsL 32 t = ws ++ [w] ++ cutsL 32 t := by simp
      rw [e]
      exact ⟨b', LoopTo.more (orc := tNone) (lo := noLo) (fun _ _ _ _ h => h) (LoOk2.no _) step ih⟩
    · rw [if_neg hc] at step
      obtain ⟨b', ih⟩ := loop28 t (p ++ [c]) b ws (w ++ [c]) (by rw [List.append_assoc, List.singleton_append]; exact hl) (by simp only [List.length_append, List.length_singleton]; omega) (by omega)
      rw [show p ++ [c] ++ t = p ++ c :: t by simp, show List.length (p ++ [c]) = p.length + 1 by simp, ← glue_byte w hc t] at ih
      exact ⟨b', LoopTo.more (orc := tNone) (lo := noLo) (fun _ _ _ _ h => h) (LoOk2.no _) step ih⟩
theorem f28_run {t : List UInt8} (h : t.length ≤ 499) : R28 [.dat (.str (ba t))] [] = some (oRw [] (sRow (cutsL 32 t))) ∨ R28 [.dat (.str (ba t))] [] = some (.own true 1 (sRow (cutsL 32 t)), []) := by
  have key : ∀ o, (f28t (ba t)).ev = o → R28 [.dat (.str (ba t))] [] = o := fun o h => by
    rw [Tr.ev_run] at h
    exact h
  obtain ⟨b', hl⟩ := loop28 t [] true [] [] (by simp only [List.nil_append]; omega) (by simp only [List.length_nil]; omega) (by simp only [List.length_nil]; omega)
  simp only [List.nil_append, List.length_nil, glue_nil, Nat.zero_add] at hl
  cases b' with
  | true =>
    refine .inl (key _ ?_)
    rw [f28t_eq]
    refine aT (loS_yes (o1 := out28 true) out28_inj hl) (gStep (loS_eq (out := out28 true) out28_inj hl) ?_)
    simp only [List.drop_zero]
    rw [← sRow_len, List.take_length]
    rfl
  | false =>
    refine .inr (key _ ?_)
    rw [f28t_eq]
    refine aF (loS_no (o1 := out28 true) hl out28_no) (gStep (loS_eq (out := out28 false) out28_inj hl) (aT ?_ rfl))
    rw [whole_iff]
    exact ⟨rfl, (sRow_len _).symm⟩
end Go.Eng
end

/- Sectors out of short texts: the document's Long is the plain one. -/
section
namespace Go.Eng
open Go
set_option maxRecDepth 100000
set_option linter.unusedSimpArgs false

theorem rk9bt_eq (s acc : ByteArray) (l : Row) (i : Int) (c : ByteArray) (k : Int) : (rk9bt s acc l i c k).ev =
  (rAsk (decide (k > (0 : Int)))
   (rAsk (Nat.ble ((ByteArray.size acc) + (ByteArray.size c)) 9223372036854775807)
    (some (Ex.norm, (St.mk (mkT 0 59 [(0, (AV.dat (D.str s))), (4, (AV.dat (D.str (acc ++ c)))), (5, (AV.dat (D.list LK.full 1 l))), (6, (AV.dat (D.int IntKind.i64 i))), (7, (AV.dat (D.str c))), (9, (AV.dat (D.int IntKind.i64 (IntKind.wrap IntKind.i64 (k - (1 : Int))))))]) (Mem.mk [] [] 0))))
    none
   )
   (some ((Ex.exit 2), (St.mk (mkT 0 59 [(0, (AV.dat (D.str s))), (4, (AV.dat (D.str acc))), (5, (AV.dat (D.list LK.full 1 l))), (6, (AV.dat (D.int IntKind.i64 i)))]) (Mem.mk [] [] 0))))
  )
  := by kernel_rfl
theorem rk9bf_eq (s acc : ByteArray) (l : Row) (i : Int) (c : ByteArray) (k : Int) : (rk9bf s acc l i c k).ev =
  (rAsk (decide (k > (0 : Int)))
   (rAsk (Nat.ble ((ByteArray.size acc) + (ByteArray.size c)) 9223372036854775807)
    (some (Ex.norm, (St.mk (mkT 0 59 [(0, (AV.dat (D.str s))), (4, (AV.dat (D.str (acc ++ c)))), (5, (AV.sh false 0 1 0 (List.length l))), (6, (AV.dat (D.int IntKind.i64 i))), (7, (AV.dat (D.str c))), (9, (AV.dat (D.int IntKind.i64 (IntKind.wrap IntKind.i64 (k - (1 : Int))))))]) (Mem.mk [(Option.some (Ent.row Mode.excl 1 l))] [] 0))))
    none
   )
   (some ((Ex.exit 2), (St.mk (mkT 0 59 [(0, (AV.dat (D.str s))), (4, (AV.dat (D.str acc))), (5, (AV.sh false 0 1 0 (List.length l))), (6, (AV.dat (D.int IntKind.i64 i)))]) (Mem.mk [(Option.some (Ent.row Mode.excl 1 l))] [] 0))))
  )
  := by kernel_rfl
theorem rk9t_eq (s acc : ByteArray) (l : Row) (i : Int) : (rk9t s acc l i).ev =
  (rAsk (decide (i < (((List.length l) : Nat) : Int)))
   (rAsk (true && ((decide ((0 : Int) ≤ i)) && (decide (i < (((List.length l) : Nat) : Int)))))
    (rGet l[(Int.toNat i)]? fun x1 =>
     (rGet (List.head? (List.drop 0 x1)) fun x2 =>
      (rGet (D.str? x2) fun x3 =>
       (rAsk (decide ((((ByteArray.size x3) : Nat) : Int) < (2 : Int)))
        (some (Ex.ret, (St.mk (mkT 0 59 [(0, (AV.dat (D.str s))), (2, (AV.dat (D.str (ByteArray.mk (List.toArray []))))), (3, (AV.dat (D.int IntKind.i64 (6 : Int)))), (4, (AV.dat (D.str acc)))]) (Mem.mk [] [] 0))))
        (rAsk (true && ((decide ((0 : Int) ≤ i)) && (decide (i < (((List.length l) : Nat) : Int)))))
         (rGet l[(Int.toNat i)]? fun x4 =>
          (rGet (List.head? (List.drop 0 x4)) fun x5 =>
           (rGet (D.str? x5) fun x6 =>
            (rAsk (true && (true && (decide ((2 : Int) ≤ (((ByteArray.size x6) : Nat) : Int)))))
             (rGet (fnS (fun (p : ByteArray × Bool) => ((AV.tup [(AV.dat (D.str p.1)), (AV.dat (D.bool p.2))]), [])) (P29 [(AV.dat (D.str (ByteArray.extract x6 0 2)))] [])) fun x7 =>
              (rAsk (!x7.2)
               (some (Ex.ret, (St.mk (mkT 0 59 [(0, (AV.dat (D.str s))), (2, (AV.dat (D.str (ByteArray.mk (List.toArray []))))), (3, (AV.dat (D.int IntKind.i64 (6 : Int)))), (4, (AV.dat (D.str acc)))]) (Mem.mk [] [] 0))))
               (rAsk (true && ((decide ((0 : Int) ≤ i)) && (decide (i < (((List.length l) : Nat) : Int)))))
                (rGet l[(Int.toNat i)]? fun x8 =>
                 (rGet (List.head? (List.drop 0 x8)) fun x9 =>
                  (rGet (fnS (fun (n : Int) => ((AV.dat (D.int IntKind.i64 n)), [])) (P30 [(AV.dat x9)] [])) fun x10 =>
                   (rGet (loS TT (TOrc.runs t9) (HSm 9) lp9b (out9b (AV.dat (D.str s)) (AV.dat (D.list LK.full 1 l)) (AV.dat (D.int IntKind.i64 i)) []) (St.mk (mkT 0 59 [(0, (AV.dat (D.str s))), (4, (AV.dat (D.str acc))), (5, (AV.dat (D.list LK.full 1 l))), (6, (AV.dat (D.int IntKind.i64 i))), (7, (AV.dat (D.str x7.1))), (9, (AV.dat (D.int IntKind.i64 x10)))]) (Mem.mk [] [] 0))) fun x11 =>
                    (some (Ex.norm, (St.mk (mkT 0 59 [(0, (AV.dat (D.str s))), (4, (AV.dat (D.str x11))), (5, (AV.dat (D.list LK.full 1 l))), (6, (AV.dat (D.int IntKind.i64 (IntKind.wrap IntKind.i64 (i + (1 : Int))))))]) (Mem.mk [] [] 0))))
                   )
                  )
                 )
                )
                none
               )
              )
             )
             none
            )
           )
          )
         )
         none
        )
       )
      )
     )
    )
    none
   )
   (some ((Ex.exit 0), (St.mk (mkT 0 59 [(0, (AV.dat (D.str s))), (4, (AV.dat (D.str acc)))]) (Mem.mk [] [] 0))))
  )
  := by kernel_rfl
theorem rk9f_eq (s acc : ByteArray) (l : Row) (i : Int) : (rk9f s acc l i).ev =
  (rAsk (decide (i < (((List.length l) : Nat) : Int)))
   (rAsk ((decide ((0 : Int) ≤ i)) && (decide (i < (((List.length l) : Nat) : Int))))
    (rGet l[(0 + (Int.toNat i))]? fun x1 =>
     (rGet (List.head? (List.drop 0 x1)) fun x2 =>
      (rGet (D.str? x2) fun x3 =>
       (rAsk (decide ((((ByteArray.size x3) : Nat) : Int) < (2 : Int)))
        (some (Ex.ret, (St.mk (mkT 0 59 [(0, (AV.dat (D.str s))), (2, (AV.dat (D.str (ByteArray.mk (List.toArray []))))), (3, (AV.dat (D.int IntKind.i64 (6 : Int)))), (4, (AV.dat (D.str acc)))]) (Mem.mk [] [] 0))))
        (rAsk ((decide ((0 : Int) ≤ i)) && (decide (i < (((List.length l) : Nat) : Int))))
         (rGet l[(0 + (Int.toNat i))]? fun x4 =>
          (rGet (List.head? (List.drop 0 x4)) fun x5 =>
           (rGet (D.str? x5) fun x6 =>
            (rAsk (true && (true && (decide ((2 : Int) ≤ (((ByteArray.size x6) : Nat) : Int)))))
             (rGet (fnS (fun (p : ByteArray × Bool) => ((AV.tup [(AV.dat (D.str p.1)), (AV.dat (D.bool p.2))]), [])) (P29 [(AV.dat (D.str (ByteArray.extract x6 0 2)))] [])) fun x7 =>
              (rAsk (!x7.2)
               (some (Ex.ret, (St.mk (mkT 0 59 [(0, (AV.dat (D.str s))), (2, (AV.dat (D.str (ByteArray.mk (List.toArray []))))), (3, (AV.dat (D.int IntKind.i64 (6 : Int)))), (4, (AV.dat (D.str acc)))]) (Mem.mk [] [] 0))))
               (rAsk ((decide ((0 : Int) ≤ i)) && (decide (i < (((List.length l) : Nat) : Int))))
                (rGet l[(0 + (Int.toNat i))]? fun x8 =>
                 (rGet (List.head? (List.drop 0 x8)) fun x9 =>
                  (rGet (fnS (fun (n : Int) => ((AV.dat (D.int IntKind.i64 n)), [])) (P30 [(AV.dat x9)] [])) fun x10 =>
                   (rGet (loS TT (TOrc.runs t9) (HSm 9) lp9b (out9b (AV.dat (D.str s)) (AV.sh false 0 1 0 (List.length l)) (AV.dat (D.int IntKind.i64 i)) [(Option.some (Ent.row Mode.excl 1 l))]) (St.mk (mkT 0 59 [(0, (AV.dat (D.str s))), (4, (AV.dat (D.str acc))), (5, (AV.sh false 0 1 0 (List.length l))), (6, (AV.dat (D.int IntKind.i64 i))), (7, (AV.dat (D.str x7.1))), (9, (AV.dat (D.int IntKind.i64 x10)))]) (Mem.mk [(Option.some (Ent.row Mode.excl 1 l))] [] 0))) fun x11 =>
                    (some (Ex.norm, (St.mk (mkT 0 59 [(0, (AV.dat (D.str s))), (4, (AV.dat (D.str x11))), (5, (AV.sh false 0 1 0 (List.length l))), (6, (AV.dat (D.int IntKind.i64 (IntKind.wrap IntKind.i64 (i + (1 : Int))))))]) (Mem.mk [(Option.some (Ent.row Mode.excl 1 l))] [] 0))))
                   )
                  )
                 )
                )
                none
               )
              )
             )
             none
            )
           )
          )
         )
         none
        )
       )
      )
     )
    )
    none
   )
   (some ((Ex.exit 0), (St.mk (mkT 0 59 [(0, (AV.dat (D.str s))), (4, (AV.dat (D.str acc)))]) (Mem.mk [] [] 0))))
  )
  := by kernel_rfl
theorem f9t_eq (s : ByteArray) : (f9t s).ev =
  (rAsk (decide ((((ByteArray.size s) : Nat) : Int) > (200 : Int)))
   (some ((AV.tup [(AV.dat (D.str (ByteArray.mk (List.toArray [])))), (AV.dat (D.int IntKind.i64 (6 : Int)))]), []))
   (rAsk (Option.isSome (fnS (fun (zr : Row) => ((AV.dat (D.list LK.full 1 zr)), [])) (R28 [(AV.dat (D.str s))] [])))
    (rGet (fnS (fun (zr : Row) => ((AV.dat (D.list LK.full 1 zr)), [])) (R28 [(AV.dat (D.str s))] [])) fun x1 =>
     (rAsk (Option.isSome (loS TT (TOrc.runs t9) (HSm 9) lp9 (out9x (AV.dat (D.str s))) (St.mk (mkT 0 59 [(0, (AV.dat (D.str s))), (4, (AV.dat (D.str (ByteArray.mk (List.toArray []))))), (5, (AV.dat (D.list LK.full 1 x1))), (6, (AV.dat (D.int IntKind.i64 (0 : Int))))]) (Mem.mk [] [] 0))))
      (rGet (loS TT (TOrc.runs t9) (HSm 9) lp9 (out9x (AV.dat (D.str s))) (St.mk (mkT 0 59 [(0, (AV.dat (D.str s))), (4, (AV.dat (D.str (ByteArray.mk (List.toArray []))))), (5, (AV.dat (D.list LK.full 1 x1))), (6, (AV.dat (D.int IntKind.i64 (0 : Int))))]) (Mem.mk [] [] 0))) fun x2 =>
       (rGet (fnS (fun (zs : ByteArray) => ((AV.dat (D.str zs)), [])) (P10 [(AV.dat (D.str x2))] [])) fun x3 =>
        (rAsk (!((ByteArray.toList x3) == (ByteArray.toList s)))
         (some ((AV.tup [(AV.dat (D.str (ByteArray.mk (List.toArray [])))), (AV.dat (D.int IntKind.i64 (6 : Int)))]), []))
         (rAsk ((ByteArray.toList s) == [])
          (some ((AV.tup [(AV.dat (D.str (ByteArray.mk (List.toArray [])))), (AV.dat (D.int IntKind.i64 (6 : Int)))]), []))
          (some ((AV.tup [(AV.dat (D.str x2)), (AV.dat (D.int IntKind.i64 (0 : Int)))]), []))
         )
        )
       )
      )
      (rGet (loS TT (TOrc.runs t9) (HSm 9) lp9 (out9y (AV.dat (D.str s))) (St.mk (mkT 0 59 [(0, (AV.dat (D.str s))), (4, (AV.dat (D.str (ByteArray.mk (List.toArray []))))), (5, (AV.dat (D.list LK.full 1 x1))), (6, (AV.dat (D.int IntKind.i64 (0 : Int))))]) (Mem.mk [] [] 0))) fun x4 =>
       (some ((AV.tup [(AV.dat (D.str (ByteArray.mk (List.toArray [])))), (AV.dat (D.int IntKind.i64 (6 : Int)))]), []))
      )
     )
    )
    (rGet (fnS (fun (zr : Row) => ((AV.own true 1 zr), [])) (R28 [(AV.dat (D.str s))] [])) fun x5 =>
     (rAsk (Option.isSome (loS TT (TOrc.runs t9) (HSm 9) lp9 (out9x (AV.dat (D.str s))) (St.mk (mkT 0 59 [(0, (AV.dat (D.str s))), (4, (AV.dat (D.str (ByteArray.mk (List.toArray []))))), (5, (AV.sh false 0 1 0 (List.length x5))), (6, (AV.dat (D.int IntKind.i64 (0 : Int))))]) (Mem.mk [(Option.some (Ent.row Mode.excl 1 x5))] [] 0))))
      (rGet (loS TT (TOrc.runs t9) (HSm 9) lp9 (out9x (AV.dat (D.str s))) (St.mk (mkT 0 59 [(0, (AV.dat (D.str s))), (4, (AV.dat (D.str (ByteArray.mk (List.toArray []))))), (5, (AV.sh false 0 1 0 (List.length x5))), (6, (AV.dat (D.int IntKind.i64 (0 : Int))))]) (Mem.mk [(Option.some (Ent.row Mode.excl 1 x5))] [] 0))) fun x6 =>
       (rGet (fnS (fun (zs : ByteArray) => ((AV.dat (D.str zs)), [])) (P10 [(AV.dat (D.str x6))] [])) fun x7 =>
        (rAsk (!((ByteArray.toList x7) == (ByteArray.toList s)))
         (some ((AV.tup [(AV.dat (D.str (ByteArray.mk (List.toArray [])))), (AV.dat (D.int IntKind.i64 (6 : Int)))]), []))
         (rAsk ((ByteArray.toList s) == [])
          (some ((AV.tup [(AV.dat (D.str (ByteArray.mk (List.toArray [])))), (AV.dat (D.int IntKind.i64 (6 : Int)))]), []))
          (some ((AV.tup [(AV.dat (D.str x6)), (AV.dat (D.int IntKind.i64 (0 : Int)))]), []))
         )
        )
       )
      )
      (rGet (loS TT (TOrc.runs t9) (HSm 9) lp9 (out9y (AV.dat (D.str s))) (St.mk (mkT 0 59 [(0, (AV.dat (D.str s))), (4, (AV.dat (D.str (ByteArray.mk (List.toArray []))))), (5, (AV.sh false 0 1 0 (List.length x5))), (6, (AV.dat (D.int IntKind.i64 (0 : Int))))]) (Mem.mk [(Option.some (Ent.row Mode.excl 1 x5))] [] 0))) fun x8 =>
       (some ((AV.tup [(AV.dat (D.str (ByteArray.mk (List.toArray [])))), (AV.dat (D.int IntKind.i64 (6 : Int)))]), []))
      )
     )
    )
   )
  )
  := by kernel_rfl

/-! ### contracts -/
theorem lo30_ok : ∀ c, Go.Proofs.Tryd.f30.body = some c → LoOk2 TT tNone.runs (HSm 30) lo30 c := lo_one (lp := lp30) (by kernel_rfl) fun st r h => by
  rw [show firstRegion lp30 = 7 from by kernel_rfl] at h
  exact tlo2_ok h
theorem c30 : COk PP 30 R30 := tok_fn (H := HSm 30) TT_ok TOk.nil Go.Proofs.Tryd.func30 (by kernel_rfl) lo30_ok
theorem t29_ok : TOk PP t29 := TOk.cons (COk.spec (out := fun _ G => oI G) (E_ok 46).pure) TOk.nil
theorem lo29_ok : ∀ c, Go.Proofs.Tryd.f29.body = some c → LoOk2 TT t29.runs (HSm 29) lo29 c := lo_one (lp := lp29) (by kernel_rfl) fun st r h => by
  rw [show firstRegion lp29 = 3 from by kernel_rfl] at h
  exact tlo2_ok h
theorem c29 : COk PP 29 R29 := tok_fn (H := HSm 29) TT_ok t29_ok Go.Proofs.Tryd.func29 (by kernel_rfl) lo29_ok
theorem lo28_ok : ∀ c, Go.Proofs.Tryd.f28.body = some c → LoOk2 TT tNone.runs (HSm 28) lo28 c := lo_one (lp := lp28) (by kernel_rfl) fun st r h => by
  rw [show firstRegion lp28 = 3 from by kernel_rfl] at h
  exact tlo2_ok h
theorem c28 : COk PP 28 R28 := tok_fn (H := HSm 28) TT_ok TOk.nil Go.Proofs.Tryd.func28 (by kernel_rfl) lo28_ok
theorem t9_ok : TOk PP t9 := TOk.cons (COk.spec2 (o1 := fun _ G => oRw G) (o2 := fun _ G => oRwO G) c28) (TOk.cons (COk.spec (out := fun _ G => oPt G) c29.pure) (TOk.cons (COk.spec (out := fun _ G => oI G) c30.pure) (TOk.cons (COk.spec (out := fun _ G => oS G) c10.pure) TOk.nil)))
theorem lo9b_ok : LoOk2 TT t9.runs (HSm 9) lo9b lp9 := by
  refine LoOk2.of lp9 fun b hb st r h => ?_
  have hl : loops lp9 = [lp9b] := by kernel_rfl
  rw [hl] at hb
  obtain rfl := List.mem_singleton.1 hb
  rw [show firstRegion lp9b = 14 from by kernel_rfl] at h
  exact tlo_ok h
theorem lo9_ok : ∀ c, Go.Proofs.Tryd.f9.body = some c → LoOk2 TT t9.runs (HSm 9) lo9 c := lo_one (lp := lp9) (by kernel_rfl) fun st r h => by
  rw [show firstRegion lp9 = 6 from by kernel_rfl] at h
  exact tlo2_ok h
theorem c9 : COk PP 9 R9 := tok_fn (H := HSm 9) TT_ok t9_ok Go.Proofs.Tryd.func9 (by kernel_rfl) lo9_ok

/-! ### a byte, so many times -/
attribute [local irreducible] fnS loS tround P29 P30 P10
theorem out9b_inj {a b c : AV} {L : List (Option Ent)} : ∀ x y, out9b a b c L x = out9b a b c L y → x = y := by
  intro x y h
  simp [out9b, mkT] at h
  exact h
theorem go9b (b : Bool) (s acc : ByteArray) (l : Row) (i : Int) (c : ByteArray) (k : Int) {o} (h : ((if b then rk9bt s acc l i c k else rk9bf s acc l i c k)).ev = o) : (tround TT t9 noLo (HSm 9) lp9b (inv9b b s acc l i c k)).run = o := by
  rw [Tr.ev_run] at h
  cases b <;> exact h
theorem last9b (b : Bool) (s acc : ByteArray) (l : Row) (i : Int) (c : ByteArray) (k : Int) (hk : k ≤ 0) :
    LoopTo TT t9.runs (HSm 9) lp9b (inv9b b s acc l i c k) (out9b (.dat (.str s)) (w5 b l) (jn i) (wL b l) acc) := by
  refine LoopTo.last (orc := t9) (lo := noLo) (fun _ _ _ _ h => h) (LoOk2.no _) (go9b b _ _ _ _ _ _ ?_) (by simp [out9b])
  cases b with
  | true =>
    simp only [if_true]
    rw [rk9bt_eq]
    exact aF (by rw [decide_eq_false_iff_not]; omega) rfl
  | false =>
    simp only [Bool.false_eq_true, if_false]
    rw [rk9bf_eq]
    exact aF (by rw [decide_eq_false_iff_not]; omega) rfl
theorem loop9b (b : Bool) (s : ByteArray) (l : Row) (i : Int) (x : UInt8) : ∀ (k : Nat) (a : List UInt8), k ≤ 2000 → a.length + k ≤ 1000000000 →
    LoopTo TT t9.runs (HSm 9) lp9b (inv9b b s (ba a) l i (ba [x]) k) (out9b (.dat (.str s)) (w5 b l) (jn i) (wL b l) (ba (a ++ List.replicate k x)))
  | 0, a, _, _ => by
    rw [List.replicate_zero, List.append_nil]
    exact last9b b s (ba a) l i (ba [x]) 0 (Int.le_refl 0)
  | k + 1, a, hk, ha => by
    have wk : IntKind.wrap .i64 (((k + 1 : Nat) : Int) - 1) = ((k : Nat) : Int) := w64 (by omega) (by omega)
    have hsz : Nat.ble ((ba a).size + (ba [x]).size) 9223372036854775807 = true := by
      rw [ba_sz, ba_sz]
      exact Nat.ble_eq_true_of_le (by simp only [List.length_singleton]; omega)
    have step : (tround TT t9 noLo (HSm 9) lp9b (inv9b b s (ba a) l i (ba [x]) ((k + 1 : Nat) : Int))).run = some (.norm, inv9b b s (ba (a ++ [x])) l i (ba [x]) ((k : Nat) : Int)) := by
      refine go9b b _ _ _ _ _ _ ?_
      cases b with
      | true =>
        simp only [if_true]
        rw [rk9bt_eq, wk]
        refine aT (by rw [decide_eq_true_eq]; omega) (aT hsz ?_)
        rw [ba_app]
        rfl
      | false =>
        simp only [Bool.false_eq_true, if_false]
        rw [rk9bf_eq, wk]
        refine aT (by rw [decide_eq_true_eq]; omega) (aT hsz ?_)
        rw [ba_app]
        rfl
    have ih := loop9b b s l i x k (a ++ [x]) (by omega) (by rw [List.length_append, List.length_singleton]; omega)
    rw [List.append_assoc, List.singleton_append, ← List.replicate_succ] at ih
    exact LoopTo.more (orc := t9) (lo := noLo) (fun _ _ _ _ h => h) (LoOk2.no _) step ih
theorem loop9k (b : Bool) (s : ByteArray) (l : Row) (i : Int) (x : UInt8) (k : Int) (a : List UInt8) (hk : k ≤ 2000) (ha : a.length ≤ 900000000) :
    LoopTo TT t9.runs (HSm 9) lp9b (inv9b b s (ba a) l i (ba [x]) k) (out9b (.dat (.str s)) (w5 b l) (jn i) (wL b l) (ba (a ++ List.replicate k.toNat x))) := by
  by_cases h : k ≤ 0
  · rw [show k.toNat = 0 by omega, List.replicate_zero, List.append_nil]
    exact last9b b s (ba a) l i (ba [x]) k h
  · have := loop9b b s l i x k.toNat a (by omega) (by omega)
    rw [show ((k.toNat : Nat) : Int) = k by omega] at this
    exact this
end Go.Eng
end

/- Sectors out of short texts: the document's Long is the plain one. -/
section
namespace Go.Eng
open Go
set_option maxRecDepth 100000
set_option linter.unusedSimpArgs false

theorem runD_le (ds : List UInt8) (h : ds.length ≤ 2) : runD 0 ds ≤ 2000 := by
  match ds, h with
  | [], _ => simp [runD]
  | [a], _ =>
    have := a.toNat_lt
    simp only [runD]
    split <;> omega
  | [a, b], _ =>
    have := a.toNat_lt
    have := b.toNat_lt
    simp only [runD]
    split
    · omega
    · split <;> omega
  | _ :: _ :: _ :: _, h => simp at h
theorem runL_le (w : List UInt8) : runL w ≤ 2000 := by
  unfold runL
  split
  · omega
  · split
    · omega
    · exact runD_le _ (by rw [List.length_drop]; omega)
attribute [local irreducible] fnS loS tround P29 P30 P10
theorem go9 (b : Bool) (s acc : ByteArray) (l : Row) (i : Int) {o} (h : ((if b then rk9t s acc l i else rk9f s acc l i)).ev = o) : (tround TT t9 lo9b (HSm 9) lp9 (inv9 b s acc l i)).run = o := by
  rw [Tr.ev_run] at h
  cases b <;> exact h
def res9 (b : Bool) (s : ByteArray) (st : St) : Option (List UInt8) → Prop
  | some o => LoopTo TT t9.runs (HSm 9) lp9 st (out9x (.dat (.str s)) (ba o))
  | none => ∃ a, LoopTo TT t9.runs (HSm 9) lp9 st (out9y (.dat (.str s)) a)
theorem ba_two (a b : UInt8) (r : List UInt8) : (ba (a :: b :: r)).extract 0 2 = ba [a, b] := by
  apply ByteArray.ext
  apply Array.ext'
  rw [Go.Lib.extract_data]
  simp [ba]
theorem two {w : List UInt8} (h : ¬ w.length < 2) : ∃ a b r, w = a :: b :: r := by
  match w, h with
  | a :: b :: r, _ => exact ⟨a, b, r, rfl⟩
  | [], h => simp at h
  | [_], h => simp at h

theorem loop9 (b : Bool) (s : ByteArray) : ∀ (rest pre : List (List UInt8)) (acc : List UInt8), (pre ++ rest).length ≤ 1000 → acc.length + 2000 * rest.length ≤ 10000000 →
    res9 b s (inv9 b s (ba acc) (sRow (pre ++ rest)) pre.length) (refF rest acc)
  | [], pre, acc, hn, _ => by
    refine LoopTo.last (orc := t9) (lo := lo9b) (fun _ _ _ _ h => h) lo9b_ok (go9 b _ _ _ _ ?_) (by simp [out9x])
    have hd : decide (((pre.length : Nat) : Int) < (((sRow (pre ++ [])).length : Nat) : Int)) = false := by rw [decide_eq_false_iff_not, sRow_len, List.append_nil]; omega
    cases b with
    | true =>
      simp only [if_true]
      rw [rk9t_eq]
      exact aF hd rfl
    | false =>
      simp only [Bool.false_eq_true, if_false]
      rw [rk9f_eq]
      exact aF hd rfl
  | w :: rest, pre, acc, hn, ha => by
    have hlen : (sRow (pre ++ w :: rest)).length = pre.length + rest.length + 1 := by
      rw [sRow_len, List.length_append, List.length_cons]; omega
    rw [List.length_append, List.length_cons] at hn
    rw [List.length_cons] at ha
    have hat : (sRow (pre ++ w :: rest))[Int.toNat ((pre.length : Nat) : Int)]? = some [.str (ba w)] := by
      rw [Int.toNat_natCast]
      exact sRow_at (by simp)
    have hat0 : (sRow (pre ++ w :: rest))[0 + Int.toNat ((pre.length : Nat) : Int)]? = some [.str (ba w)] := by
      rw [Nat.zero_add]
      exact hat
    have bf : ((decide ((0 : Int) ≤ ((pre.length : Nat) : Int))) && (decide (((pre.length : Nat) : Int) < (((sRow (pre ++ w :: rest)).length : Nat) : Int)))) = true := by
      rw [Bool.and_eq_true, decide_eq_true_eq, decide_eq_true_eq]
      omega
    have bt : (true && ((decide ((0 : Int) ≤ ((pre.length : Nat) : Int))) && (decide (((pre.length : Nat) : Int) < (((sRow (pre ++ w :: rest)).length : Nat) : Int))))) = true := by
      rw [Bool.true_and]
      exact bf
    have a0 : decide (((pre.length : Nat) : Int) < (((sRow (pre ++ w :: rest)).length : Nat) : Int)) = true := by rw [decide_eq_true_eq]; omega
    have wi : IntKind.wrap .i64 (((pre.length : Nat) : Int) + 1) = ((pre.length + 1 : Nat) : Int) := w64 (by omega) (by omega)
    by_cases h2 : w.length < 2
    · have hu : undL w = none := by
        match w, h2 with
        | [], _ => rfl
        | [_], _ => rfl
        | _ :: _ :: _, h => exact absurd h (by simp only [List.length_cons]; omega)
      simp only [refF, hu]
      refine ⟨ba acc, LoopTo.last (orc := t9) (lo := lo9b) (fun _ _ _ _ h => h) lo9b_ok (go9 b _ _ _ _ ?_) (by simp [out9y])⟩
      have hs : decide ((((ba w).size : Nat) : Int) < 2) = true := by rw [ba_sz, decide_eq_true_eq]; omega
      cases b with
      | true =>
        simp only [if_true]
        rw [rk9t_eq]
        exact aT a0 (aT bt (gStep hat (gStep rfl (gStep (x := ba w) rfl (aT hs rfl)))))
      | false =>
        simp only [Bool.false_eq_true, if_false]
        rw [rk9f_eq]
        exact aT a0 (aT bf (gStep hat0 (gStep rfl (gStep (x := ba w) rfl (aT hs rfl)))))
    obtain ⟨x, y, r, rfl⟩ := two h2
    have hs : decide ((((ba (x :: y :: r)).size : Nat) : Int) < 2) = false := by rw [ba_sz, decide_eq_false_iff_not]; omega
    have hs2 : (true && (true && (decide ((2 : Int) ≤ (((ba (x :: y :: r)).size : Nat) : Int))))) = true := by
      rw [Bool.true_and, Bool.true_and, ba_sz, decide_eq_true_eq]; omega
    have e29 : fnS (oPt []) (P29 [(AV.dat (D.str ((ba (x :: y :: r)).extract 0 2)))] []) = some (if digL x < 0 ∨ digL y < 0 then (ba [], false) else (ba [byteR (digL x) (digL y)], true)) := by
      rw [ba_two]
      exact fnS_eq (out := oPt []) oPt_inj (p29 x y [])
    by_cases hd : digL x < 0 ∨ digL y < 0
    · have hu : undL (x :: y :: r) = none := by rw [undL, if_pos hd]
      simp only [refF, hu]
      rw [if_pos hd] at e29
      refine ⟨ba acc, LoopTo.last (orc := t9) (lo := lo9b) (fun _ _ _ _ h => h) lo9b_ok (go9 b _ _ _ _ ?_) (by simp [out9y])⟩
      cases b with
      | true =>
        simp only [if_true]
        rw [rk9t_eq]
        exact aT a0 (aT bt (gStep hat (gStep rfl (gStep (x := ba (x :: y :: r)) rfl (aF hs (aT bt (gStep hat (gStep rfl (gStep (x := ba (x :: y :: r)) rfl (aT hs2 (gStep e29 (aT rfl rfl))))))))))))
      | false =>
        simp only [Bool.false_eq_true, if_false]
        rw [rk9f_eq]
        exact aT a0 (aT bf (gStep hat0 (gStep rfl (gStep (x := ba (x :: y :: r)) rfl (aF hs (aT bf (gStep hat0 (gStep rfl (gStep (x := ba (x :: y :: r)) rfl (aT hs2 (gStep e29 (aT rfl rfl))))))))))))
    · have hu : undL (x :: y :: r) = some (List.replicate (runL (x :: y :: r)).toNat (byteR (digL x) (digL y))) := by rw [undL, if_neg hd]
      simp only [refF, hu]
      rw [if_neg hd] at e29
      have hr := runL_le (x :: y :: r)
      have e30 := fnS_eq (out := oI []) oI_inj (p30 (x :: y :: r) [])
      have hlo := loop9k b s (sRow (pre ++ (x :: y :: r) :: rest)) pre.length (byteR (digL x) (digL y)) (runL (x :: y :: r)) acc hr (by omega)
      have elo := loS_eq out9b_inj hlo
      have step : (tround TT t9 lo9b (HSm 9) lp9 (inv9 b s (ba acc) (sRow (pre ++ (x :: y :: r) :: rest)) pre.length)).run = some (.norm, inv9 b s (ba (acc ++ List.replicate (runL (x :: y :: r)).toNat (byteR (digL x) (digL y)))) (sRow (pre ++ (x :: y :: r) :: rest)) ((pre.length + 1 : Nat) : Int)) := by
        refine go9 b _ _ _ _ ?_
        cases b with
        | true =>
          simp only [if_true]
          rw [rk9t_eq]
          refine aT a0 (aT bt (gStep hat (gStep rfl (gStep (x := ba (x :: y :: r)) rfl (aF hs (aT bt (gStep hat (gStep rfl (gStep (x := ba (x :: y :: r)) rfl (aT hs2 (gStep e29 (aF rfl (aT bt (gStep hat (gStep rfl (gStep e30 (gStep elo ?_)))))))))))))))))
          rw [wi]
          rfl
        | false =>
          simp only [Bool.false_eq_true, if_false]
          rw [rk9f_eq]
          refine aT a0 (aT bf (gStep hat0 (gStep rfl (gStep (x := ba (x :: y :: r)) rfl (aF hs (aT bf (gStep hat0 (gStep rfl (gStep (x := ba (x :: y :: r)) rfl (aT hs2 (gStep e29 (aF rfl (aT bf (gStep hat0 (gStep rfl (gStep e30 (gStep elo ?_)))))))))))))))))
          rw [wi]
          rfl
      have ih := loop9 b s rest (pre ++ [x :: y :: r]) (acc ++ List.replicate (runL (x :: y :: r)).toNat (byteR (digL x) (digL y))) (by simp only [List.length_append, List.length_cons, List.length_nil]; omega)
        (by rw [List.length_append, List.length_replicate]; omega)
      rw [show pre ++ [x :: y :: r] ++ rest = pre ++ (x :: y :: r) :: rest by simp, show List.length (pre ++ [x :: y :: r]) = pre.length + 1 by simp] at ih
      cases hq : refF rest (acc ++ List.replicate (runL (x :: y :: r)).toNat (byteR (digL x) (digL y))) with
      | some o =>
        rw [hq] at ih
        exact LoopTo.more (orc := t9) (lo := lo9b) (fun _ _ _ _ h => h) lo9b_ok step ih
      | none =>
        rw [hq] at ih
        obtain ⟨a, ih⟩ := ih
        exact ⟨a, LoopTo.more (orc := t9) (lo := lo9b) (fun _ _ _ _ h => h) lo9b_ok step ih⟩

theorem out9x_inj {a0 : AV} : ∀ x y, out9x a0 x = out9x a0 y → x = y := by
  intro x y h
  simp [out9x, mkT] at h
  exact h
theorem out9y_inj {a0 : AV} : ∀ x y, out9y a0 x = out9y a0 y → x = y := by
  intro x y h
  simp [out9y, mkT] at h
  exact h
theorem out9_no {a0 : AV} {y : ByteArray} : ∀ x, out9x a0 x ≠ out9y a0 y := fun x h => by simp [out9x, out9y] at h
theorem oRwO_inj {G : List Ent} : ∀ x y, oRwO G x = oRwO G y → x = y := by intro x y h; simpa [oRwO] using h
theorem oRw_no {G : List Ent} {y : Row} : ∀ x, oRw G x ≠ oRwO G y := fun x h => by simp [oRw, oRwO] at h
theorem p10' {l : List UInt8} {G : List Ent} : fnS (oS G) (P10 [.dat (.str (ba l))] G) = some (ba (shortB l)) := fnS_eq (out := oS G) oS_inj p10
theorem f9_run (t : List UInt8) : R9 [.dat (.str (ba t))] [] = some (oLg [] (lgOf (refL t))) := by
  have key : ∀ o, (f9t (ba t)).ev = o → R9 [.dat (.str (ba t))] [] = o := fun o h => by
    rw [Tr.ev_run] at h
    exact h
  refine key _ ?_
  rw [f9t_eq]
  by_cases h200 : 200 < t.length
  · rw [refL, if_pos h200]
    exact aT (by rw [ba_sz, decide_eq_true_eq]; omega) rfl
  refine aF (by rw [ba_sz, decide_eq_false_iff_not]; omega) ?_
  rw [refL, if_neg h200]
  have hn := cuts_num 32 t
  have hl := fun b => loop9 b (ba t) (cutsL 32 t) [] [] (by simp only [List.nil_append]; omega) (by simp only [List.length_nil]; omega)
  simp only [List.nil_append, List.length_nil] at hl
  rcases f28_run (t := t) (by omega) with e28 | e28
  · refine aT (fnS_yes (o1 := oRw []) oRw_inj e28) (gStep (fnS_eq (out := oRw []) oRw_inj e28) ?_)
    have hl := hl true
    cases hp : refF (cutsL 32 t) [] with
    | none =>
      rw [hp] at hl
      obtain ⟨a, hl⟩ := hl
      exact aF (loS_no (o1 := out9x (.dat (.str (ba t)))) hl out9_no) (gStep (loS_eq (out := out9y (.dat (.str (ba t)))) out9y_inj hl) rfl)
    | some o =>
      rw [hp] at hl
      refine aT (loS_yes (o1 := out9x (.dat (.str (ba t)))) out9x_inj hl) (gStep (loS_eq (out := out9x (.dat (.str (ba t)))) out9x_inj hl) (gStep p10' ?_))
      simp only
      by_cases h1 : shortB o = t
      · refine aF (by rw [ba_list, ba_list, h1]; simp) ?_
        by_cases h0 : t = []
        · rw [if_pos (.inr h0)]
          exact aT (by rw [ba_list, h0]; rfl) rfl
        · rw [if_neg (by simp [h0, h1])]
          exact aF (by rw [ba_list]; simpa using h0) rfl
      · rw [if_pos (.inl h1)]
        exact aT (by rw [ba_list, ba_list]; simpa using h1) rfl
  · have e28' : R28 [.dat (.str (ba t))] [] = some (oRwO [] (sRow (cutsL 32 t))) := e28
    refine aF (fnS_no e28' oRw_no) (gStep (fnS_eq (out := oRwO []) oRwO_inj e28') ?_)
    have hl := hl false
    cases hp : refF (cutsL 32 t) [] with
    | none =>
      rw [hp] at hl
      obtain ⟨a, hl⟩ := hl
      exact aF (loS_no (o1 := out9x (.dat (.str (ba t)))) hl out9_no) (gStep (loS_eq (out := out9y (.dat (.str (ba t)))) out9y_inj hl) rfl)
    | some o =>
      rw [hp] at hl
      refine aT (loS_yes (o1 := out9x (.dat (.str (ba t)))) out9x_inj hl) (gStep (loS_eq (out := out9x (.dat (.str (ba t)))) out9x_inj hl) (gStep p10' ?_))
      simp only
      by_cases h1 : shortB o = t
      · refine aF (by rw [ba_list, ba_list, h1]; simp) ?_
        by_cases h0 : t = []
        · rw [if_pos (.inr h0)]
          exact aT (by rw [ba_list, h0]; rfl) rfl
        · rw [if_neg (by simp [h0, h1])]
          exact aF (by rw [ba_list]; simpa using h0) rfl
      · rw [if_pos (.inl h1)]
        exact aT (by rw [ba_list, ba_list]; simpa using h1) rfl
end Go.Eng
end

/- SectorShorts: the law as a tree. -/
section
namespace Go.Eng
open Go
set_option maxRecDepth 100000
noncomputable def P8 := pureS R8
noncomputable def P9 := pureS R9
noncomputable def t3 : TOrc := tCons 6 (fun a G => tspec (oT G) (P6 a G)) (tCons 7 (fun a G => tspec (oS G) (P7 a G)) (tCons 8 (fun a G => tspec (oLg G) (P8 a G)) (tCons 9 (fun a G => tspec (oLg G) (P9 a G)) (tCons 10 (fun a G => tspec (oS G) (P10 a G)) (tCons 11 (fun a G => t8 11 a G) tNone)))))
noncomputable def f3t (s t : ByteArray) : Tr (AV × List Ent) := tfn TT t3 noLo Go.Proofs.Tryd.f3 [.dat (.str s), .dat (.str t)] []
noncomputable def R3 (a : List AV) (G : List Ent) : Option (AV × List Ent) := (tfn TT t3 noLo Go.Proofs.Tryd.f3 a G).run
theorem t3_ok : TOk PP t3 := TOk.cons (COk.spec (out := fun _ G => oT G) (E_ok 6).pure) (TOk.cons (COk.spec (out := fun _ G => oS G) c7.pure) (TOk.cons (COk.spec (out := fun _ G => oLg G) c8.pure) (TOk.cons (COk.spec (out := fun _ G => oLg G) c9.pure) (TOk.cons (COk.spec (out := fun _ G => oS G) c10.pure) (TOk.cons (t8_ok 11) TOk.nil)))))
theorem c3 : COk PP 3 R3 := tok_fn (H := fun _ => []) TT_ok t3_ok Go.Proofs.Tryd.func3 (by kernel_rfl) fun _ _ => LoOk2.no _
end Go.Eng
end
