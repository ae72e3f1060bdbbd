/- Answers as lines: the document's Line is lineP. -/
import Derived.Test.YtnkiegafaiebiaaDoorSp32
import Derived.Test.YtnkiegafaiebiaaDoorSp19
section
namespace Go.Eng
open Go
set_option maxRecDepth 100000
set_option linter.unusedSimpArgs false

theorem mkba (l : List UInt8) : ByteArray.mk (List.toArray l) = ba l := rfl
attribute [local irreducible] fnS loS tround P134 P118 P7 P10 S13 S14 P17
theorem go7 {why n m : Int} {d : ByteArray} {k : LK} {z : Nat} {l : Row} {s : ByteArray} {i : Int} {o} (h : (rk7 why n m d k z l s i).ev = o) : (tround TT t107 noLo (HSc 7) lp7 (inv7 why n m d k z l s i)).run = o := by
  rw [Tr.ev_run] at h
  exact h
theorem J_snoc (W : List (List UInt8)) (v : List UInt8) (h : W ≠ []) : J (W ++ [v]) = J W ++ [32] ++ v := by
  rw [J_app W v [] h, J_one, List.append_assoc]
  rfl
theorem loop7 {why n m : Int} {d : ByteArray} {k : LK} {z : Nat} : ∀ (l pre : List Int) (W : List (List UInt8)), W ≠ [] → (pre ++ l).length ≤ 1000 → (J W).length + 30 * l.length ≤ 100000 → (∀ v ∈ l, fit64 v) → (pre ++ l ≠ [] → z = 1) →
    LoopTo TT t107.runs (HSc 7) lp7 (inv7 why n m d k z (encI (pre ++ l)) (ba (J W)) pre.length) (out7s (ba (J (W ++ l.map Go.Lib.itoa))))
  | [], pre, W, _, _, _, _, _ => by
    refine LoopTo.last (orc := t107) (lo := noLo) (fun _ _ _ _ h => h) (LoOk2.no _) (go7 ?_) (by simp [out7s])
    rw [rk7_eq, List.append_nil, encI_len, List.map_nil, List.append_nil]
    exact aF (by rw [decide_eq_false_iff_not]; omega) rfl
  | v :: l, pre, W, h0, h, hW, hf, hz => by
    have hz1 := hz (by simp)
    have hlen : (encI (pre ++ v :: l)).length = pre.length + l.length + 1 := by
      rw [encI_len, List.length_append, List.length_cons]; omega
    have hl := h
    rw [List.length_append, List.length_cons] at hl
    rw [List.length_cons] at hW
    have hv := itoa_le (hf v (by simp))
    have hb : ((decide (z = 1)) && ((decide ((0 : Int) ≤ ((pre.length : Nat) : Int))) && (decide (((pre.length : Nat) : Int) < (((encI (pre ++ v :: l)).length : Nat) : Int))))) = true := by
      rw [Bool.and_eq_true, Bool.and_eq_true, decide_eq_true_eq, decide_eq_true_eq, decide_eq_true_eq]
      omega
    have hJ := J_snoc W (Go.Lib.itoa v) h0
    have step : (tround TT t107 noLo (HSc 7) lp7 (inv7 why n m d k z (encI (pre ++ v :: l)) (ba (J W)) pre.length)).run = some (.norm, inv7 why n m d k z (encI (pre ++ v :: l)) (ba (J (W ++ [Go.Lib.itoa v]))) ((pre.length + 1 : Nat) : Int)) := by
      refine go7 ?_
      rw [rk7_eq, w64 (n := pre.length + 1) (by omega) (x := ((pre.length : Nat) : Int) + 1) (by omega)]
      refine aT (by rw [decide_eq_true_eq]; omega) (aT (Nat.ble_eq_true_of_le (by rw [ba_sz]; omega)) (aT hb (gStep (encI_at pre v l) (gStep rfl (gStep (fnS_eq (out := oS []) oS_inj (p118 (hf v (by simp)) [])) (aT (Nat.ble_eq_true_of_le (by simp only [mkba, ba_app, ba_sz, List.length_append, List.length_cons, List.length_nil]; omega)) ?_))))))
      simp only [mkba, ba_app]
      rw [hJ]
      rfl
    have ih := loop7 (why := why) (n := n) (m := m) (d := d) (k := k) (z := z) l (pre ++ [v]) (W ++ [Go.Lib.itoa v]) (by simp) (by simpa using h) (by rw [hJ]; simp only [List.length_append, List.length_cons, List.length_nil]; omega) (fun u hu => hf u (by simp [hu])) (fun _ => hz1)
    rw [show pre ++ [v] ++ l = pre ++ v :: l by simp, show List.length (pre ++ [v]) = pre.length + 1 by simp, List.append_assoc] at ih
    exact LoopTo.more (orc := t107) (lo := noLo) (fun _ _ _ _ h => h) (LoOk2.no _) step ih
theorem end7 {x : An} {k : LK} {z : Nat} (hf : fitA x) (h60 : x.list.length ≤ 60) (hz : x.list ≠ [] → z = 1) (W : List (List UInt8)) (hW : headV x = W) :
    loS TT t107.runs (HSc 7) lp7 out7s (inv7 x.why x.n x.m (ba x.data) k z (encI x.list) (ba (J W)) 0) = some (ba (J (W ++ x.list.map Go.Lib.itoa))) := by
  have hh := headV_le hf
  rw [hW] at hh
  have hj := J_len W 200 hh.2
  have := Nat.mul_le_mul_left (200 + 1) hh.1
  have hl := loop7 (why := x.why) (n := x.n) (m := x.m) (d := ba x.data) (k := k) (z := z) x.list [] W (by rw [← hW]; simp [headV]) (by simp only [List.nil_append]; omega) (by omega) hf.2.2.2 (by simpa using hz)
  exact loS_eq (out := out7s) out7s_inj hl
theorem f7_run {x : An} {k : LK} {z : Nat} (hf : fitA x) (hz : x.list ≠ [] → z = 1) : R107 [anX x k z] [] = some (oLn [] (lnOf (lineP x))) := by
  have key : ∀ o, (f7lt x.why x.n x.m (ba x.data) k z (encI x.list)).ev = o → R107 [anX x k z] [] = o := fun o h => by
    rw [Tr.ev_run] at h
    exact h
  refine key _ ?_
  rw [f7lt_eq]
  have hx : (encI x.list).length = x.list.length := encI_len _
  have hoi := okA_iff (x := x)
  have e12 := fnS_eq (out := oB []) oB_inj (p17 x.data [])
  have e13 := fnS_eq (out := oS []) oS_inj (p118 hf.1 [])
  have en := fnS_eq (out := oS []) oS_inj (p118 hf.2.1 [])
  have em := fnS_eq (out := oS []) oS_inj (p118 hf.2.2.1 [])
  have ed := fnS_eq (out := oS []) oS_inj (p10 (l := x.data) (G := []))
  have l1 := itoa_le hf.1
  have l2 := itoa_le hf.2.1
  have l3 := itoa_le hf.2.2.1
  have l4 := short_le x.data
  have bad : okA x = false → lineP x = none := fun h => by unfold lineP; rw [h]; rfl
  by_cases h1 : x.why < 0
  · rw [bad (by rw [Bool.eq_false_iff]; intro q; have := hoi.1 q; omega)]
    exact aT (decide_eq_true h1) rfl
  refine aF (decide_eq_false h1) ?_
  by_cases h2 : x.why > 22
  · rw [bad (by rw [Bool.eq_false_iff]; intro q; have := hoi.1 q; omega)]
    exact aT (decide_eq_true h2) rfl
  refine aF (decide_eq_false h2) ?_
  by_cases h0 : x.data = []
  · have hd0 : (!((ba x.data).toList == [])) = false := by rw [ba_nil, decide_eq_true h0]; rfl
    refine aF hd0 ?_
    by_cases h4 : x.list.length > 60
    · rw [bad (by rw [Bool.eq_false_iff]; intro q; have := hoi.1 q; omega)]
      exact aT (by rw [decide_eq_true_eq]; omega) rfl
    refine aF (by rw [decide_eq_false_iff_not]; omega) ?_
    have hok := hoi.2 ⟨by omega, by omega, .inl h0, by omega⟩
    have hj := J_line (x := x) (.inl h0)
    have hlp : lineP x = some (J (headV x ++ x.list.map Go.Lib.itoa)) := by unfold lineP; rw [if_pos hok, hj]
    rw [hlp]
    have hen := end7 (k := k) (z := z) hf (by omega) hz
    by_cases hn0 : x.n = 0
    · have hn : (x.n != 0) = false := by simp [hn0]
      by_cases hm0 : x.m = 0
      · have hm : (x.m != 0) = false := by simp [hm0]
        by_cases hl1 : x.list = []
        · have hl0 : decide ((((encI x.list).length : Nat) : Int) > 0) = false := by rw [hl1] at hx ⊢; rfl
          have hW : headV x = [wWhy, Go.Lib.itoa x.why] := by simp [headV, secN, secM, secV, secT, hn0, hm0, h0, hl1]
          have he := hen _ hW
          have hT : ([119, 104, 121, 32] ++ Go.Lib.itoa x.why : List UInt8) = J [wWhy, Go.Lib.itoa x.why] := by simp [J_cons, J_one, wWhy, wN, wM, wData, wList]
          rw [hW]
          refine gStep e13 (aT (Nat.ble_eq_true_of_le (by simp only [mkba, ba_app, ba_sz, List.length_append, List.length_cons, List.length_nil]; omega)) (aF hn (aF hm (aF hd0 (aF hl0 (?_))))))
          simp only [mkba, ba_app]
          rw [hT]
          exact gStep he rfl
        · have hl0 : decide ((((encI x.list).length : Nat) : Int) > 0) = true := by have := List.length_pos_iff.2 hl1; rw [decide_eq_true_eq]; omega
          have hW : headV x = [wWhy, Go.Lib.itoa x.why, wList] := by simp [headV, secN, secM, secV, secT, hn0, hm0, h0, hl1]
          have he := hen _ hW
          have hT : ([119, 104, 121, 32] ++ Go.Lib.itoa x.why ++ [32, 108, 105, 115, 116] : List UInt8) = J [wWhy, Go.Lib.itoa x.why, wList] := by simp [J_cons, J_one, wWhy, wN, wM, wData, wList]
          rw [hW]
          refine gStep e13 (aT (Nat.ble_eq_true_of_le (by simp only [mkba, ba_app, ba_sz, List.length_append, List.length_cons, List.length_nil]; omega)) (aF hn (aF hm (aF hd0 (aT hl0 (aT (Nat.ble_eq_true_of_le (by simp only [mkba, ba_app, ba_sz, List.length_append, List.length_cons, List.length_nil]; omega)) (?_)))))))
          simp only [mkba, ba_app]
          rw [hT]
          exact gStep he rfl
      · have hm : (x.m != 0) = true := by simp [hm0]
        by_cases hl1 : x.list = []
        · have hl0 : decide ((((encI x.list).length : Nat) : Int) > 0) = false := by rw [hl1] at hx ⊢; rfl
          have hW : headV x = [wWhy, Go.Lib.itoa x.why, wM, Go.Lib.itoa x.m] := by simp [headV, secN, secM, secV, secT, hn0, hm0, h0, hl1]
          have he := hen _ hW
          have hT : ([119, 104, 121, 32] ++ Go.Lib.itoa x.why ++ [32, 109, 32] ++ Go.Lib.itoa x.m : List UInt8) = J [wWhy, Go.Lib.itoa x.why, wM, Go.Lib.itoa x.m] := by simp [J_cons, J_one, wWhy, wN, wM, wData, wList]
          rw [hW]
          refine gStep e13 (aT (Nat.ble_eq_true_of_le (by simp only [mkba, ba_app, ba_sz, List.length_append, List.length_cons, List.length_nil]; omega)) (aF hn (aT hm (aT (Nat.ble_eq_true_of_le (by simp only [mkba, ba_app, ba_sz, List.length_append, List.length_cons, List.length_nil]; omega)) (gStep em (aT (Nat.ble_eq_true_of_le (by simp only [mkba, ba_app, ba_sz, List.length_append, List.length_cons, List.length_nil]; omega)) (aF hd0 (aF hl0 (?_)))))))))
          simp only [mkba, ba_app]
          rw [hT]
          exact gStep he rfl
        · have hl0 : decide ((((encI x.list).length : Nat) : Int) > 0) = true := by have := List.length_pos_iff.2 hl1; rw [decide_eq_true_eq]; omega
          have hW : headV x = [wWhy, Go.Lib.itoa x.why, wM, Go.Lib.itoa x.m, wList] := by simp [headV, secN, secM, secV, secT, hn0, hm0, h0, hl1]
          have he := hen _ hW
          have hT : ([119, 104, 121, 32] ++ Go.Lib.itoa x.why ++ [32, 109, 32] ++ Go.Lib.itoa x.m ++ [32, 108, 105, 115, 116] : List UInt8) = J [wWhy, Go.Lib.itoa x.why, wM, Go.Lib.itoa x.m, wList] := by simp [J_cons, J_one, wWhy, wN, wM, wData, wList]
          rw [hW]
          refine gStep e13 (aT (Nat.ble_eq_true_of_le (by simp only [mkba, ba_app, ba_sz, List.length_append, List.length_cons, List.length_nil]; omega)) (aF hn (aT hm (aT (Nat.ble_eq_true_of_le (by simp only [mkba, ba_app, ba_sz, List.length_append, List.length_cons, List.length_nil]; omega)) (gStep em (aT (Nat.ble_eq_true_of_le (by simp only [mkba, ba_app, ba_sz, List.length_append, List.length_cons, List.length_nil]; omega)) (aF hd0 (aT hl0 (aT (Nat.ble_eq_true_of_le (by simp only [mkba, ba_app, ba_sz, List.length_append, List.length_cons, List.length_nil]; omega)) (?_))))))))))
          simp only [mkba, ba_app]
          rw [hT]
          exact gStep he rfl
    · have hn : (x.n != 0) = true := by simp [hn0]
      by_cases hm0 : x.m = 0
      · have hm : (x.m != 0) = false := by simp [hm0]
        by_cases hl1 : x.list = []
        · have hl0 : decide ((((encI x.list).length : Nat) : Int) > 0) = false := by rw [hl1] at hx ⊢; rfl
          have hW : headV x = [wWhy, Go.Lib.itoa x.why, wN, Go.Lib.itoa x.n] := by simp [headV, secN, secM, secV, secT, hn0, hm0, h0, hl1]
          have he := hen _ hW
          have hT : ([119, 104, 121, 32] ++ Go.Lib.itoa x.why ++ [32, 110, 32] ++ Go.Lib.itoa x.n : List UInt8) = J [wWhy, Go.Lib.itoa x.why, wN, Go.Lib.itoa x.n] := by simp [J_cons, J_one, wWhy, wN, wM, wData, wList]
          rw [hW]
          refine gStep e13 (aT (Nat.ble_eq_true_of_le (by simp only [mkba, ba_app, ba_sz, List.length_append, List.length_cons, List.length_nil]; omega)) (aT hn (aT (Nat.ble_eq_true_of_le (by simp only [mkba, ba_app, ba_sz, List.length_append, List.length_cons, List.length_nil]; omega)) (gStep en (aT (Nat.ble_eq_true_of_le (by simp only [mkba, ba_app, ba_sz, List.length_append, List.length_cons, List.length_nil]; omega)) (aF hm (aF hd0 (aF hl0 (?_)))))))))
          simp only [mkba, ba_app]
          rw [hT]
          exact gStep he rfl
        · have hl0 : decide ((((encI x.list).length : Nat) : Int) > 0) = true := by have := List.length_pos_iff.2 hl1; rw [decide_eq_true_eq]; omega
          have hW : headV x = [wWhy, Go.Lib.itoa x.why, wN, Go.Lib.itoa x.n, wList] := by simp [headV, secN, secM, secV, secT, hn0, hm0, h0, hl1]
          have he := hen _ hW
          have hT : ([119, 104, 121, 32] ++ Go.Lib.itoa x.why ++ [32, 110, 32] ++ Go.Lib.itoa x.n ++ [32, 108, 105, 115, 116] : List UInt8) = J [wWhy, Go.Lib.itoa x.why, wN, Go.Lib.itoa x.n, wList] := by simp [J_cons, J_one, wWhy, wN, wM, wData, wList]
          rw [hW]
          refine gStep e13 (aT (Nat.ble_eq_true_of_le (by simp only [mkba, ba_app, ba_sz, List.length_append, List.length_cons, List.length_nil]; omega)) (aT hn (aT (Nat.ble_eq_true_of_le (by simp only [mkba, ba_app, ba_sz, List.length_append, List.length_cons, List.length_nil]; omega)) (gStep en (aT (Nat.ble_eq_true_of_le (by simp only [mkba, ba_app, ba_sz, List.length_append, List.length_cons, List.length_nil]; omega)) (aF hm (aF hd0 (aT hl0 (aT (Nat.ble_eq_true_of_le (by simp only [mkba, ba_app, ba_sz, List.length_append, List.length_cons, List.length_nil]; omega)) (?_))))))))))
          simp only [mkba, ba_app]
          rw [hT]
          exact gStep he rfl
      · have hm : (x.m != 0) = true := by simp [hm0]
        by_cases hl1 : x.list = []
        · have hl0 : decide ((((encI x.list).length : Nat) : Int) > 0) = false := by rw [hl1] at hx ⊢; rfl
          have hW : headV x = [wWhy, Go.Lib.itoa x.why, wN, Go.Lib.itoa x.n, wM, Go.Lib.itoa x.m] := by simp [headV, secN, secM, secV, secT, hn0, hm0, h0, hl1]
          have he := hen _ hW
          have hT : ([119, 104, 121, 32] ++ Go.Lib.itoa x.why ++ [32, 110, 32] ++ Go.Lib.itoa x.n ++ [32, 109, 32] ++ Go.Lib.itoa x.m : List UInt8) = J [wWhy, Go.Lib.itoa x.why, wN, Go.Lib.itoa x.n, wM, Go.Lib.itoa x.m] := by simp [J_cons, J_one, wWhy, wN, wM, wData, wList]
          rw [hW]
          refine gStep e13 (aT (Nat.ble_eq_true_of_le (by simp only [mkba, ba_app, ba_sz, List.length_append, List.length_cons, List.length_nil]; omega)) (aT hn (aT (Nat.ble_eq_true_of_le (by simp only [mkba, ba_app, ba_sz, List.length_append, List.length_cons, List.length_nil]; omega)) (gStep en (aT (Nat.ble_eq_true_of_le (by simp only [mkba, ba_app, ba_sz, List.length_append, List.length_cons, List.length_nil]; omega)) (aT hm (aT (Nat.ble_eq_true_of_le (by simp only [mkba, ba_app, ba_sz, List.length_append, List.length_cons, List.length_nil]; omega)) (gStep em (aT (Nat.ble_eq_true_of_le (by simp only [mkba, ba_app, ba_sz, List.length_append, List.length_cons, List.length_nil]; omega)) (aF hd0 (aF hl0 (?_))))))))))))
          simp only [mkba, ba_app]
          rw [hT]
          exact gStep he rfl
        · have hl0 : decide ((((encI x.list).length : Nat) : Int) > 0) = true := by have := List.length_pos_iff.2 hl1; rw [decide_eq_true_eq]; omega
          have hW : headV x = [wWhy, Go.Lib.itoa x.why, wN, Go.Lib.itoa x.n, wM, Go.Lib.itoa x.m, wList] := by simp [headV, secN, secM, secV, secT, hn0, hm0, h0, hl1]
          have he := hen _ hW
          have hT : ([119, 104, 121, 32] ++ Go.Lib.itoa x.why ++ [32, 110, 32] ++ Go.Lib.itoa x.n ++ [32, 109, 32] ++ Go.Lib.itoa x.m ++ [32, 108, 105, 115, 116] : List UInt8) = J [wWhy, Go.Lib.itoa x.why, wN, Go.Lib.itoa x.n, wM, Go.Lib.itoa x.m, wList] := by simp [J_cons, J_one, wWhy, wN, wM, wData, wList]
          rw [hW]
          refine gStep e13 (aT (Nat.ble_eq_true_of_le (by simp only [mkba, ba_app, ba_sz, List.length_append, List.length_cons, List.length_nil]; omega)) (aT hn (aT (Nat.ble_eq_true_of_le (by simp only [mkba, ba_app, ba_sz, List.length_append, List.length_cons, List.length_nil]; omega)) (gStep en (aT (Nat.ble_eq_true_of_le (by simp only [mkba, ba_app, ba_sz, List.length_append, List.length_cons, List.length_nil]; omega)) (aT hm (aT (Nat.ble_eq_true_of_le (by simp only [mkba, ba_app, ba_sz, List.length_append, List.length_cons, List.length_nil]; omega)) (gStep em (aT (Nat.ble_eq_true_of_le (by simp only [mkba, ba_app, ba_sz, List.length_append, List.length_cons, List.length_nil]; omega)) (aF hd0 (aT hl0 (aT (Nat.ble_eq_true_of_le (by simp only [mkba, ba_app, ba_sz, List.length_append, List.length_cons, List.length_nil]; omega)) (?_)))))))))))))
          simp only [mkba, ba_app]
          rw [hT]
          exact gStep he rfl
  · have hd0 : (!((ba x.data).toList == [])) = true := by rw [ba_nil, decide_eq_false h0]; rfl
    refine aT hd0 (gStep e12 ?_)
    by_cases h3 : x.data.length = 64
    · refine aF (by rw [decide_eq_true h3]; rfl) ?_
      by_cases h4 : x.list.length > 60
      · rw [bad (by rw [Bool.eq_false_iff]; intro q; have := hoi.1 q; omega)]
        exact aT (by rw [decide_eq_true_eq]; omega) rfl
      refine aF (by rw [decide_eq_false_iff_not]; omega) ?_
      have hok := hoi.2 ⟨by omega, by omega, .inr h3, by omega⟩
      have hj := J_line (x := x) (.inr h3)
      have hlp : lineP x = some (J (headV x ++ x.list.map Go.Lib.itoa)) := by unfold lineP; rw [if_pos hok, hj]
      rw [hlp]
      have hen := end7 (k := k) (z := z) hf (by omega) hz
      by_cases hn0 : x.n = 0
      · have hn : (x.n != 0) = false := by simp [hn0]
        by_cases hm0 : x.m = 0
        · have hm : (x.m != 0) = false := by simp [hm0]
          by_cases hl1 : x.list = []
          · have hl0 : decide ((((encI x.list).length : Nat) : Int) > 0) = false := by rw [hl1] at hx ⊢; rfl
            have hW : headV x = [wWhy, Go.Lib.itoa x.why, wData, shortB x.data] := by simp [headV, secN, secM, secV, secT, hn0, hm0, h0, hl1]
            have he := hen _ hW
            have hT : ([119, 104, 121, 32] ++ Go.Lib.itoa x.why ++ [32, 100, 97, 116, 97, 32] ++ shortB x.data : List UInt8) = J [wWhy, Go.Lib.itoa x.why, wData, shortB x.data] := by simp [J_cons, J_one, wWhy, wN, wM, wData, wList]
            rw [hW]
            refine gStep e13 (aT (Nat.ble_eq_true_of_le (by simp only [mkba, ba_app, ba_sz, List.length_append, List.length_cons, List.length_nil]; omega)) (aF hn (aF hm (aT hd0 (aT (Nat.ble_eq_true_of_le (by simp only [mkba, ba_app, ba_sz, List.length_append, List.length_cons, List.length_nil]; omega)) (gStep ed (aT (Nat.ble_eq_true_of_le (by simp only [mkba, ba_app, ba_sz, List.length_append, List.length_cons, List.length_nil]; omega)) (aF hl0 (?_)))))))))
            simp only [mkba, ba_app]
            rw [hT]
            exact gStep he rfl
          · have hl0 : decide ((((encI x.list).length : Nat) : Int) > 0) = true := by have := List.length_pos_iff.2 hl1; rw [decide_eq_true_eq]; omega
            have hW : headV x = [wWhy, Go.Lib.itoa x.why, wData, shortB x.data, wList] := by simp [headV, secN, secM, secV, secT, hn0, hm0, h0, hl1]
            have he := hen _ hW
            have hT : ([119, 104, 121, 32] ++ Go.Lib.itoa x.why ++ [32, 100, 97, 116, 97, 32] ++ shortB x.data ++ [32, 108, 105, 115, 116] : List UInt8) = J [wWhy, Go.Lib.itoa x.why, wData, shortB x.data, wList] := by simp [J_cons, J_one, wWhy, wN, wM, wData, wList]
            rw [hW]
            refine gStep e13 (aT (Nat.ble_eq_true_of_le (by simp only [mkba, ba_app, ba_sz, List.length_append, List.length_cons, List.length_nil]; omega)) (aF hn (aF hm (aT hd0 (aT (Nat.ble_eq_true_of_le (by simp only [mkba, ba_app, ba_sz, List.length_append, List.length_cons, List.length_nil]; omega)) (gStep ed (aT (Nat.ble_eq_true_of_le (by simp only [mkba, ba_app, ba_sz, List.length_append, List.length_cons, List.length_nil]; omega)) (aT hl0 (aT (Nat.ble_eq_true_of_le (by simp only [mkba, ba_app, ba_sz, List.length_append, List.length_cons, List.length_nil]; omega)) (?_))))))))))
            simp only [mkba, ba_app]
            rw [hT]
            exact gStep he rfl
        · have hm : (x.m != 0) = true := by simp [hm0]
          by_cases hl1 : x.list = []
          · have hl0 : decide ((((encI x.list).length : Nat) : Int) > 0) = false := by rw [hl1] at hx ⊢; rfl
            have hW : headV x = [wWhy, Go.Lib.itoa x.why, wM, Go.Lib.itoa x.m, wData, shortB x.data] := by simp [headV, secN, secM, secV, secT, hn0, hm0, h0, hl1]
            have he := hen _ hW
            have hT : ([119, 104, 121, 32] ++ Go.Lib.itoa x.why ++ [32, 109, 32] ++ Go.Lib.itoa x.m ++ [32, 100, 97, 116, 97, 32] ++ shortB x.data : List UInt8) = J [wWhy, Go.Lib.itoa x.why, wM, Go.Lib.itoa x.m, wData, shortB x.data] := by simp [J_cons, J_one, wWhy, wN, wM, wData, wList]
            rw [hW]
            refine gStep e13 (aT (Nat.ble_eq_true_of_le (by simp only [mkba, ba_app, ba_sz, List.length_append, List.length_cons, List.length_nil]; omega)) (aF hn (aT hm (aT (Nat.ble_eq_true_of_le (by simp only [mkba, ba_app, ba_sz, List.length_append, List.length_cons, List.length_nil]; omega)) (gStep em (aT (Nat.ble_eq_true_of_le (by simp only [mkba, ba_app, ba_sz, List.length_append, List.length_cons, List.length_nil]; omega)) (aT hd0 (aT (Nat.ble_eq_true_of_le (by simp only [mkba, ba_app, ba_sz, List.length_append, List.length_cons, List.length_nil]; omega)) (gStep ed (aT (Nat.ble_eq_true_of_le (by simp only [mkba, ba_app, ba_sz, List.length_append, List.length_cons, List.length_nil]; omega)) (aF hl0 (?_))))))))))))
            simp only [mkba, ba_app]
            rw [hT]
            exact gStep he rfl
          · have hl0 : decide ((((encI x.list).length : Nat) : Int) > 0) = true := by have := List.length_pos_iff.2 hl1; rw [decide_eq_true_eq]; omega
            have hW : headV x = [wWhy, Go.Lib.itoa x.why, wM, Go.Lib.itoa x.m, wData, shortB x.data, wList] := by simp [headV, secN, secM, secV, secT, hn0, hm0, h0, hl1]
            have he := hen _ hW
            have hT : ([119, 104, 121, 32] ++ Go.Lib.itoa x.why ++ [32, 109, 32] ++ Go.Lib.itoa x.m ++ [32, 100, 97, 116, 97, 32] ++ shortB x.data ++ [32, 108, 105, 115, 116] : List UInt8) = J [wWhy, Go.Lib.itoa x.why, wM, Go.Lib.itoa x.m, wData, shortB x.data, wList] := by simp [J_cons, J_one, wWhy, wN, wM, wData, wList]
            rw [hW]
            refine gStep e13 (aT (Nat.ble_eq_true_of_le (by simp only [mkba, ba_app, ba_sz, List.length_append, List.length_cons, List.length_nil]; omega)) (aF hn (aT hm (aT (Nat.ble_eq_true_of_le (by simp only [mkba, ba_app, ba_sz, List.length_append, List.length_cons, List.length_nil]; omega)) (gStep em (aT (Nat.ble_eq_true_of_le (by simp only [mkba, ba_app, ba_sz, List.length_append, List.length_cons, List.length_nil]; omega)) (aT hd0 (aT (Nat.ble_eq_true_of_le (by simp only [mkba, ba_app, ba_sz, List.length_append, List.length_cons, List.length_nil]; omega)) (gStep ed (aT (Nat.ble_eq_true_of_le (by simp only [mkba, ba_app, ba_sz, List.length_append, List.length_cons, List.length_nil]; omega)) (aT hl0 (aT (Nat.ble_eq_true_of_le (by simp only [mkba, ba_app, ba_sz, List.length_append, List.length_cons, List.length_nil]; omega)) (?_)))))))))))))
            simp only [mkba, ba_app]
            rw [hT]
            exact gStep he rfl
      · have hn : (x.n != 0) = true := by simp [hn0]
        by_cases hm0 : x.m = 0
        · have hm : (x.m != 0) = false := by simp [hm0]
          by_cases hl1 : x.list = []
          · have hl0 : decide ((((encI x.list).length : Nat) : Int) > 0) = false := by rw [hl1] at hx ⊢; rfl
            have hW : headV x = [wWhy, Go.Lib.itoa x.why, wN, Go.Lib.itoa x.n, wData, shortB x.data] := by simp [headV, secN, secM, secV, secT, hn0, hm0, h0, hl1]
            have he := hen _ hW
            have hT : ([119, 104, 121, 32] ++ Go.Lib.itoa x.why ++ [32, 110, 32] ++ Go.Lib.itoa x.n ++ [32, 100, 97, 116, 97, 32] ++ shortB x.data : List UInt8) = J [wWhy, Go.Lib.itoa x.why, wN, Go.Lib.itoa x.n, wData, shortB x.data] := by simp [J_cons, J_one, wWhy, wN, wM, wData, wList]
            rw [hW]
            refine gStep e13 (aT (Nat.ble_eq_true_of_le (by simp only [mkba, ba_app, ba_sz, List.length_append, List.length_cons, List.length_nil]; omega)) (aT hn (aT (Nat.ble_eq_true_of_le (by simp only [mkba, ba_app, ba_sz, List.length_append, List.length_cons, List.length_nil]; omega)) (gStep en (aT (Nat.ble_eq_true_of_le (by simp only [mkba, ba_app, ba_sz, List.length_append, List.length_cons, List.length_nil]; omega)) (aF hm (aT hd0 (aT (Nat.ble_eq_true_of_le (by simp only [mkba, ba_app, ba_sz, List.length_append, List.length_cons, List.length_nil]; omega)) (gStep ed (aT (Nat.ble_eq_true_of_le (by simp only [mkba, ba_app, ba_sz, List.length_append, List.length_cons, List.length_nil]; omega)) (aF hl0 (?_))))))))))))
            simp only [mkba, ba_app]
            rw [hT]
            exact gStep he rfl
          · have hl0 : decide ((((encI x.list).length : Nat) : Int) > 0) = true := by have := List.length_pos_iff.2 hl1; rw [decide_eq_true_eq]; omega
            have hW : headV x = [wWhy, Go.Lib.itoa x.why, wN, Go.Lib.itoa x.n, wData, shortB x.data, wList] := by simp [headV, secN, secM, secV, secT, hn0, hm0, h0, hl1]
            have he := hen _ hW
            have hT : ([119, 104, 121, 32] ++ Go.Lib.itoa x.why ++ [32, 110, 32] ++ Go.Lib.itoa x.n ++ [32, 100, 97, 116, 97, 32] ++ shortB x.data ++ [32, 108, 105, 115, 116] : List UInt8) = J [wWhy, Go.Lib.itoa x.why, wN, Go.Lib.itoa x.n, wData, shortB x.data, wList] := by simp [J_cons, J_one, wWhy, wN, wM, wData, wList]
            rw [hW]
            refine gStep e13 (aT (Nat.ble_eq_true_of_le (by simp only [mkba, ba_app, ba_sz, List.length_append, List.length_cons, List.length_nil]; omega)) (aT hn (aT (Nat.ble_eq_true_of_le (by simp only [mkba, ba_app, ba_sz, List.length_append, List.length_cons, List.length_nil]; omega)) (gStep en (aT (Nat.ble_eq_true_of_le (by simp only [mkba, ba_app, ba_sz, List.length_append, List.length_cons, List.length_nil]; omega)) (aF hm (aT hd0 (aT (Nat.ble_eq_true_of_le (by simp only [mkba, ba_app, ba_sz, List.length_append, List.length_cons, List.length_nil]; omega)) (gStep ed (aT (Nat.ble_eq_true_of_le (by simp only [mkba, ba_app, ba_sz, List.length_append, List.length_cons, List.length_nil]; omega)) (aT hl0 (aT (Nat.ble_eq_true_of_le (by simp only [mkba, ba_app, ba_sz, List.length_append, List.length_cons, List.length_nil]; omega)) (?_)))))))))))))
            simp only [mkba, ba_app]
            rw [hT]
            exact gStep he rfl
        · have hm : (x.m != 0) = true := by simp [hm0]
          by_cases hl1 : x.list = []
          · have hl0 : decide ((((encI x.list).length : Nat) : Int) > 0) = false := by rw [hl1] at hx ⊢; rfl
            have hW : headV x = [wWhy, Go.Lib.itoa x.why, wN, Go.Lib.itoa x.n, wM, Go.Lib.itoa x.m, wData, shortB x.data] := by simp [headV, secN, secM, secV, secT, hn0, hm0, h0, hl1]
            have he := hen _ hW
            have hT : ([119, 104, 121, 32] ++ Go.Lib.itoa x.why ++ [32, 110, 32] ++ Go.Lib.itoa x.n ++ [32, 109, 32] ++ Go.Lib.itoa x.m ++ [32, 100, 97, 116, 97, 32] ++ shortB x.data : List UInt8) = J [wWhy, Go.Lib.itoa x.why, wN, Go.Lib.itoa x.n, wM, Go.Lib.itoa x.m, wData, shortB x.data] := by simp [J_cons, J_one, wWhy, wN, wM, wData, wList]
            rw [hW]
            refine gStep e13 (aT (Nat.ble_eq_true_of_le (by simp only [mkba, ba_app, ba_sz, List.length_append, List.length_cons, List.length_nil]; omega)) (aT hn (aT (Nat.ble_eq_true_of_le (by simp only [mkba, ba_app, ba_sz, List.length_append, List.length_cons, List.length_nil]; omega)) (gStep en (aT (Nat.ble_eq_true_of_le (by simp only [mkba, ba_app, ba_sz, List.length_append, List.length_cons, List.length_nil]; omega)) (aT hm (aT (Nat.ble_eq_true_of_le (by simp only [mkba, ba_app, ba_sz, List.length_append, List.length_cons, List.length_nil]; omega)) (gStep em (aT (Nat.ble_eq_true_of_le (by simp only [mkba, ba_app, ba_sz, List.length_append, List.length_cons, List.length_nil]; omega)) (aT hd0 (aT (Nat.ble_eq_true_of_le (by simp only [mkba, ba_app, ba_sz, List.length_append, List.length_cons, List.length_nil]; omega)) (gStep ed (aT (Nat.ble_eq_true_of_le (by simp only [mkba, ba_app, ba_sz, List.length_append, List.length_cons, List.length_nil]; omega)) (aF hl0 (?_)))))))))))))))
            simp only [mkba, ba_app]
            rw [hT]
            exact gStep he rfl
          · have hl0 : decide ((((encI x.list).length : Nat) : Int) > 0) = true := by have := List.length_pos_iff.2 hl1; rw [decide_eq_true_eq]; omega
            have hW : headV x = [wWhy, Go.Lib.itoa x.why, wN, Go.Lib.itoa x.n, wM, Go.Lib.itoa x.m, wData, shortB x.data, wList] := by simp [headV, secN, secM, secV, secT, hn0, hm0, h0, hl1]
            have he := hen _ hW
            have hT : ([119, 104, 121, 32] ++ Go.Lib.itoa x.why ++ [32, 110, 32] ++ Go.Lib.itoa x.n ++ [32, 109, 32] ++ Go.Lib.itoa x.m ++ [32, 100, 97, 116, 97, 32] ++ shortB x.data ++ [32, 108, 105, 115, 116] : List UInt8) = J [wWhy, Go.Lib.itoa x.why, wN, Go.Lib.itoa x.n, wM, Go.Lib.itoa x.m, wData, shortB x.data, wList] := by simp [J_cons, J_one, wWhy, wN, wM, wData, wList]
            rw [hW]
            refine gStep e13 (aT (Nat.ble_eq_true_of_le (by simp only [mkba, ba_app, ba_sz, List.length_append, List.length_cons, List.length_nil]; omega)) (aT hn (aT (Nat.ble_eq_true_of_le (by simp only [mkba, ba_app, ba_sz, List.length_append, List.length_cons, List.length_nil]; omega)) (gStep en (aT (Nat.ble_eq_true_of_le (by simp only [mkba, ba_app, ba_sz, List.length_append, List.length_cons, List.length_nil]; omega)) (aT hm (aT (Nat.ble_eq_true_of_le (by simp only [mkba, ba_app, ba_sz, List.length_append, List.length_cons, List.length_nil]; omega)) (gStep em (aT (Nat.ble_eq_true_of_le (by simp only [mkba, ba_app, ba_sz, List.length_append, List.length_cons, List.length_nil]; omega)) (aT hd0 (aT (Nat.ble_eq_true_of_le (by simp only [mkba, ba_app, ba_sz, List.length_append, List.length_cons, List.length_nil]; omega)) (gStep ed (aT (Nat.ble_eq_true_of_le (by simp only [mkba, ba_app, ba_sz, List.length_append, List.length_cons, List.length_nil]; omega)) (aT hl0 (aT (Nat.ble_eq_true_of_le (by simp only [mkba, ba_app, ba_sz, List.length_append, List.length_cons, List.length_nil]; omega)) (?_))))))))))))))))
            simp only [mkba, ba_app]
            rw [hT]
            exact gStep he rfl
    · rw [bad (by rw [Bool.eq_false_iff]; intro q; have := hoi.1 q; rcases this.2.2.1 with q | q; exact h0 q; exact h3 q)]
      exact aT (by rw [decide_eq_false h3]; rfl) rfl
end Go.Eng
end

/- Answers as lines: guess, as trees. -/
section
namespace Go.Eng
open Go
set_option maxRecDepth 100000

def HSg (f : Nat) : Nat → List Nat := match f with
  | 20 => hOfS [(3000000, [6000000, 6000001]), (6000000, [2, 3, 5]), (6000001, [0, 2, 3, 5]), (18, [0, 2, 3, 5]), (1000018, [0, 2, 3, 5]), (23, [2, 3, 5, 67, 68, 69]), (1000023, [2, 3, 5])]
  | _ => fun _ => []
def scOf : Code → Option Code
  | .seq a b => (scOf a).orElse fun _ => scOf b
  | .scope b => some b
  | _ => none
noncomputable def sc20 : Code := (scOf (codeOf Go.Proofs.Tryd.f20)).getD .skip
noncomputable def P138 := pureS R8
noncomputable def t120 : TOrc := tCons 37 (fun a G => tspec (oI G) (P137 a G)) (tCons 16 (fun a G => tspec (oS G) (S16n a G)) (tCons 38 (fun a G => tspec (oLg G) (P138 a G)) tNone))
def obA (why n m : Int) (d : ByteArray) (c : AV) : Option Ent := some (.obj [jn why, jn n, jn m, .dat (.str d), c])
/-- the data words so far: none, or a row of our own -/
def dV (b : Bool) (r : Row) (i : Nat) : AV := if b then .sh false i 1 0 r.length else .dat (.list .nil 0 [])
def dE (b : Bool) (r : Row) : List (Option Ent) := if b then [some (.row .excl 1 r)] else []
def st1 (b : Bool) (why n m : Int) (d : ByteArray) (r : Row) (l : Row) : St := ⟨mkT 0 92 [(0, .dat (.list .full 1 l)), (2, .ptr (.loc 0) 0), (3, .ptr (.loc 1) 0), (5, dV b r 2)], ⟨obA 0 0 0 ⟨#[]⟩ (.dat (.list .nil 0 [])) :: obA why n m d (.dat (.list .nil 0 [])) :: dE b r, [], 0⟩⟩
def kF (n : Nat) : LK := if LK.full = LK.full ∧ ((n : Nat) : Int) < ((n : Nat) : Int) then .any else .full
/-- the loop over data words -/
noncomputable def lp20d : Code := lpOf (codeOf Go.Proofs.Tryd.f20) 0
def invD (b : Bool) (why n m : Int) (d : ByteArray) (r : Row) (l : Row) : St := st1 b why n m d r l
noncomputable def rkDn (why n m : Int) (d : ByteArray) (l : Row) : Tr (Ex × St) := tround TT t120 noLo (HSg 20) lp20d (invD false why n m d [] l)
noncomputable def rkDr (why n m : Int) (d : ByteArray) (r l : Row) : Tr (Ex × St) := tround TT t120 noLo (HSg 20) lp20d (invD true why n m d r l)
/-- the loop over a list's words -/
noncomputable def lp20l : Code := lpOf (codeOf Go.Proofs.Tryd.f20) 1
/-- the list so far: none, or a row of our own behind the data's -/
def cL (b c : Bool) (q : Row) : AV := if c then .sh false (if b then 3 else 2) 1 0 q.length else .dat (.list .nil 0 [])
def invL (b c : Bool) (why n m : Int) (d : ByteArray) (r q : Row) (l : Row) (i : Int) : St := ⟨mkT 0 92 [(2, .ptr (.loc 0) 0), (3, .ptr (.loc 1) 0), (5, dV b r 2), (67, .dat (.list .full 1 l)), (68, jn (l.length : Nat)), (69, jn i)], ⟨obA 0 0 0 ⟨#[]⟩ (.dat (.list .nil 0 [])) :: obA why n m d (cL b c q) :: (dE b r ++ dE c q), [], 0⟩⟩
noncomputable def rkLnn (why n m : Int) (d : ByteArray) (l : Row) (i : Int) : Tr (Ex × St) := tround TT t120 noLo (HSg 20) lp20l (invL false false why n m d [] [] l i)
noncomputable def rkLnr (why n m : Int) (d : ByteArray) (q l : Row) (i : Int) : Tr (Ex × St) := tround TT t120 noLo (HSg 20) lp20l (invL false true why n m d [] q l i)
noncomputable def rkLrn (why n m : Int) (d : ByteArray) (r l : Row) (i : Int) : Tr (Ex × St) := tround TT t120 noLo (HSg 20) lp20l (invL true false why n m d r [] l i)
noncomputable def rkLrr (why n m : Int) (d : ByteArray) (r q l : Row) (i : Int) : Tr (Ex × St) := tround TT t120 noLo (HSg 20) lp20l (invL true true why n m d r q l i)
/-- behind label 0 -/
def st0 (b c : Bool) (why n m : Int) (d : ByteArray) (r q : Row) : St := ⟨mkT 0 92 [(2, .ptr (.loc 0) 0), (3, .ptr (.loc 1) 0), (5, dV b r 2)], ⟨obA 0 0 0 ⟨#[]⟩ (.dat (.list .nil 0 [])) :: obA why n m d (cL b c q) :: (dE b r ++ dE c q), [], 0⟩⟩
noncomputable def endG (s : St) : Tr (AV × List Ent) := (tjump TT t120 noLo [6000000, 6000001] 0 sc20 s).bind fun p => match p with
  | (.ret, st) => tfinish TT Go.Proofs.Tryd.f20 st
  | _ => .fail
noncomputable def eGnn (why n m : Int) (d : ByteArray) : Tr (AV × List Ent) := endG (st0 false false why n m d [] [])
noncomputable def eGnr (why n m : Int) (d : ByteArray) (q : Row) : Tr (AV × List Ent) := endG (st0 false true why n m d [] q)
noncomputable def eGrn (why n m : Int) (d : ByteArray) (r : Row) : Tr (AV × List Ent) := endG (st0 true false why n m d r [])
noncomputable def eGrr (why n m : Int) (d : ByteArray) (r q : Row) : Tr (AV × List Ent) := endG (st0 true true why n m d r q)
end Go.Eng
end

/- Answers as lines: guess, its jumps as trees. -/
section
namespace Go.Eng
open Go
set_option maxRecDepth 100000

def ob0 : Option Ent := obA 0 0 0 ⟨#[]⟩ (.dat (.list .nil 0 []))
def outDn (o : Option Ent) (l : Row) : Ex × St := (.exit 1, ⟨mkT 0 92 [(0, .dat (.list .full 1 l)), (2, .ptr (.loc 0) 0), (3, .ptr (.loc 1) 0), (5, .dat (.list .nil 0 []))], ⟨[ob0, o], [], 0⟩⟩)
def outDr (o : Option Ent) (p : Row × Row) : Ex × St := (.exit 1, ⟨mkT 0 92 [(0, .dat (.list .full 1 p.2)), (2, .ptr (.loc 0) 0), (3, .ptr (.loc 1) 0), (5, .sh false 2 1 0 p.1.length)], ⟨[ob0, o, some (.row .excl 1 p.1)], [], 0⟩⟩)
def setA (o : Option Ent) (c : AV) : Option Ent := match o with
  | some (.obj [a, b, e, d, _]) => some (.obj [a, b, e, d, c])
  | o => o
def outL (t5 : AV) (o : Option Ent) (dr : List (Option Ent)) (q : Row) : Ex × St := (.exit 3, ⟨mkT 0 92 [(2, .ptr (.loc 0) 0), (3, .ptr (.loc 1) 0), (5, t5)], ⟨ob0 :: setA o (.sh false (2 + dr.length) 1 0 q.length) :: (dr ++ [some (.row .excl 1 q)]), [], 0⟩⟩)
noncomputable def lo20 (n : Nat) (st : St) : Tr (Ex × St) := match n with
  | 18 => tlo2 TT t120.runs (HSg 20) lp20d (outDn ((tidy (HSg 20 18) st).mem.L.getD 1 none)) (outDr ((tidy (HSg 20 18) st).mem.L.getD 1 none)) st
  | 23 => tlo TT t120.runs (HSg 20) lp20l (outL ((tidy (HSg 20 23) st).tmps.getD 5 .dead) ((tidy (HSg 20 23) st).mem.L.getD 1 none) ((tidy (HSg 20 23) st).mem.L.drop 2)) st
  | _ => .fail
abbrev ro20 : List Nat := [6000000, 6000001]
noncomputable def g1n (why n m : Int) (d : ByteArray) (l : Row) : Tr (Ex × St) := tJ TT t120 lo20 ro20 (HSg 20) 1 sc20 (st1 false why n m d [] l)
noncomputable def g1r (why n m : Int) (d : ByteArray) (r l : Row) : Tr (Ex × St) := tJ TT t120 lo20 ro20 (HSg 20) 1 sc20 (st1 true why n m d r l)
def fst20 : Code → Code
  | .seq a _ => a
  | c => c
noncomputable def r20 : Code := fst20 (codeOf Go.Proofs.Tryd.f20)
def ini20 (l : Row) : St := { tmps := [.dat (.list .full 1 l)] ++ List.replicate 91 .undef, mem := { L := [], G := [], ep := 0 } }
noncomputable def gB (l : Row) : Tr (Ex × St) := (texec2 TT t120 lo20 ro20 r20 (ini20 l)).bind fun p => match p with
  | (.norm, s) => (texec2 TT t120 lo20 ro20 sc20 s).bind fun q => match q with
    | (.goto l', s') => .ret (.goto l', tidyJ (HSg 20) l' s')
    | r => .ret r
  | _ => .fail
theorem body20 : codeOf Go.Proofs.Tryd.f20 = .seq r20 (.scope sc20) := by kernel_rfl
end Go.Eng
end

/- Answers as lines: the loops of guess. -/
section
namespace Go.Eng
open Go
set_option maxRecDepth 100000
set_option linter.unusedSimpArgs false

theorem rkDn_eq (why n m : Int) (d : ByteArray) (l : Row) : (rkDn why n m d l).ev =
 (rAsk (decide ((((List.length l) : Nat) : Int) > (0 : Int)))
 (rAsk (true && (true && (decide ((0 : Int) < (((List.length l) : Nat) : Int)))))
 (rGet l[0]? fun x1 =>
 (rGet (List.head? (List.drop 0 x1)) fun x2 =>
 (rGet (D.str? x2) fun x3 =>
 (rAsk (!((ByteArray.toList x3) == [108, 105, 115, 116]))
 (rAsk (true && (true && (decide ((0 : Int) < (((List.length l) : Nat) : Int)))))
 (rGet l[0]? fun x4 =>
 (rGet (List.head? (List.drop 0 x4)) fun x5 =>
 (rAsk (true && ((decide ((1 : Int) ≤ (((List.length l) : Nat) : Int))) && (decide ((((List.length l) : Nat) : Int) ≤ (((List.length l) : Nat) : Int)))))
 (some (Ex.norm, (St.mk (mkT 0 92 [(0, (AV.dat (D.list (if ((LK.full = LK.full) ∧ ((((List.length l) : Nat) : Int) < (((List.length l) : Nat) : Int))) then LK.any else LK.full) 1 (List.take ((Int.toNat (((List.length l) : Nat) : Int)) - 1) (List.drop 1 l))))), (2, (AV.ptr (Ref.loc 0) 0)), (3, (AV.ptr (Ref.loc 1) 0)), (5, (AV.sh false 2 1 0 1))]) (Mem.mk [(Option.some (Ent.obj [(AV.dat (D.int IntKind.i64 (0 : Int))), (AV.dat (D.int IntKind.i64 (0 : Int))), (AV.dat (D.int IntKind.i64 (0 : Int))), (AV.dat (D.str (ByteArray.mk (List.toArray [])))), (AV.dat (D.list LK.nil 0 ([] : Row)))])), (Option.some (Ent.obj [(AV.dat (D.int IntKind.i64 why)), (AV.dat (D.int IntKind.i64 n)), (AV.dat (D.int IntKind.i64 m)), (AV.dat (D.str d)), (AV.dat (D.list LK.nil 0 ([] : Row)))])), (Option.some (Ent.row Mode.excl 1 [[x5]]))] [] 0))))
 none
 )
 )
 )
 none
 )
 (some ((Ex.exit 1), (St.mk (mkT 0 92 [(0, (AV.dat (D.list LK.full 1 l))), (2, (AV.ptr (Ref.loc 0) 0)), (3, (AV.ptr (Ref.loc 1) 0)), (5, (AV.dat (D.list LK.nil 0 ([] : Row))))]) (Mem.mk [(Option.some (Ent.obj [(AV.dat (D.int IntKind.i64 (0 : Int))), (AV.dat (D.int IntKind.i64 (0 : Int))), (AV.dat (D.int IntKind.i64 (0 : Int))), (AV.dat (D.str (ByteArray.mk (List.toArray [])))), (AV.dat (D.list LK.nil 0 ([] : Row)))])), (Option.some (Ent.obj [(AV.dat (D.int IntKind.i64 why)), (AV.dat (D.int IntKind.i64 n)), (AV.dat (D.int IntKind.i64 m)), (AV.dat (D.str d)), (AV.dat (D.list LK.nil 0 ([] : Row)))]))] [] 0))))
 )
 )
 )
 )
 none
 )
 (some ((Ex.exit 1), (St.mk (mkT 0 92 [(0, (AV.dat (D.list LK.full 1 l))), (2, (AV.ptr (Ref.loc 0) 0)), (3, (AV.ptr (Ref.loc 1) 0)), (5, (AV.dat (D.list LK.nil 0 ([] : Row))))]) (Mem.mk [(Option.some (Ent.obj [(AV.dat (D.int IntKind.i64 (0 : Int))), (AV.dat (D.int IntKind.i64 (0 : Int))), (AV.dat (D.int IntKind.i64 (0 : Int))), (AV.dat (D.str (ByteArray.mk (List.toArray [])))), (AV.dat (D.list LK.nil 0 ([] : Row)))])), (Option.some (Ent.obj [(AV.dat (D.int IntKind.i64 why)), (AV.dat (D.int IntKind.i64 n)), (AV.dat (D.int IntKind.i64 m)), (AV.dat (D.str d)), (AV.dat (D.list LK.nil 0 ([] : Row)))]))] [] 0))))
 )
  := by kernel_rfl
theorem rkDr_eq (why n m : Int) (d : ByteArray) (r l : Row) : (rkDr why n m d r l).ev =
 (rAsk (decide ((((List.length l) : Nat) : Int) > (0 : Int)))
 (rAsk (true && (true && (decide ((0 : Int) < (((List.length l) : Nat) : Int)))))
 (rGet l[0]? fun x1 =>
 (rGet (List.head? (List.drop 0 x1)) fun x2 =>
 (rGet (D.str? x2) fun x3 =>
 (rAsk (!((ByteArray.toList x3) == [108, 105, 115, 116]))
 (rAsk (true && (true && (decide ((0 : Int) < (((List.length l) : Nat) : Int)))))
 (rGet l[0]? fun x4 =>
 (rGet (List.head? (List.drop 0 x4)) fun x5 =>
 (rAsk ((decide ((0 + (List.length r)) ≤ (List.length r))) && (fits (TI.mk TK.str 1 16 [(AV.dat (D.str (ByteArray.mk (List.toArray []))))] true) ((List.length r) + 1)))
 (rAsk (true && (decide ((List.length r) = (List.length r))))
 (rAsk (true && ((decide ((1 : Int) ≤ (((List.length l) : Nat) : Int))) && (decide ((((List.length l) : Nat) : Int) ≤ (((List.length l) : Nat) : Int)))))
 (some (Ex.norm, (St.mk (mkT 0 92 [(0, (AV.dat (D.list (if ((LK.full = LK.full) ∧ ((((List.length l) : Nat) : Int) < (((List.length l) : Nat) : Int))) then LK.any else LK.full) 1 (List.take ((Int.toNat (((List.length l) : Nat) : Int)) - 1) (List.drop 1 l))))), (2, (AV.ptr (Ref.loc 0) 0)), (3, (AV.ptr (Ref.loc 1) 0)), (5, (AV.sh false 2 1 0 ((List.length r) + 1)))]) (Mem.mk [(Option.some (Ent.obj [(AV.dat (D.int IntKind.i64 (0 : Int))), (AV.dat (D.int IntKind.i64 (0 : Int))), (AV.dat (D.int IntKind.i64 (0 : Int))), (AV.dat (D.str (ByteArray.mk (List.toArray [])))), (AV.dat (D.list LK.nil 0 ([] : Row)))])), (Option.some (Ent.obj [(AV.dat (D.int IntKind.i64 why)), (AV.dat (D.int IntKind.i64 n)), (AV.dat (D.int IntKind.i64 m)), (AV.dat (D.str d)), (AV.dat (D.list LK.nil 0 ([] : Row)))])), (Option.some (Ent.row Mode.excl 1 (r ++ [[x5]])))] [] 0))))
 none
 )
 none
 )
 none
 )
 )
 )
 none
 )
 (some ((Ex.exit 1), (St.mk (mkT 0 92 [(0, (AV.dat (D.list LK.full 1 l))), (2, (AV.ptr (Ref.loc 0) 0)), (3, (AV.ptr (Ref.loc 1) 0)), (5, (AV.sh false 2 1 0 (List.length r)))]) (Mem.mk [(Option.some (Ent.obj [(AV.dat (D.int IntKind.i64 (0 : Int))), (AV.dat (D.int IntKind.i64 (0 : Int))), (AV.dat (D.int IntKind.i64 (0 : Int))), (AV.dat (D.str (ByteArray.mk (List.toArray [])))), (AV.dat (D.list LK.nil 0 ([] : Row)))])), (Option.some (Ent.obj [(AV.dat (D.int IntKind.i64 why)), (AV.dat (D.int IntKind.i64 n)), (AV.dat (D.int IntKind.i64 m)), (AV.dat (D.str d)), (AV.dat (D.list LK.nil 0 ([] : Row)))])), (Option.some (Ent.row Mode.excl 1 r))] [] 0))))
 )
 )
 )
 )
 none
 )
 (some ((Ex.exit 1), (St.mk (mkT 0 92 [(0, (AV.dat (D.list LK.full 1 l))), (2, (AV.ptr (Ref.loc 0) 0)), (3, (AV.ptr (Ref.loc 1) 0)), (5, (AV.sh false 2 1 0 (List.length r)))]) (Mem.mk [(Option.some (Ent.obj [(AV.dat (D.int IntKind.i64 (0 : Int))), (AV.dat (D.int IntKind.i64 (0 : Int))), (AV.dat (D.int IntKind.i64 (0 : Int))), (AV.dat (D.str (ByteArray.mk (List.toArray [])))), (AV.dat (D.list LK.nil 0 ([] : Row)))])), (Option.some (Ent.obj [(AV.dat (D.int IntKind.i64 why)), (AV.dat (D.int IntKind.i64 n)), (AV.dat (D.int IntKind.i64 m)), (AV.dat (D.str d)), (AV.dat (D.list LK.nil 0 ([] : Row)))])), (Option.some (Ent.row Mode.excl 1 r))] [] 0))))
 )
  := by kernel_rfl
theorem rkLnn_eq (why n m : Int) (d : ByteArray) (l : Row) (i : Int) : (rkLnn why n m d l i).ev =
 (rAsk (decide (i < (((List.length l) : Nat) : Int)))
 (rAsk (true && ((decide ((0 : Int) ≤ i)) && (decide (i < (((List.length l) : Nat) : Int)))))
 (rGet l[(Int.toNat i)]? fun x1 =>
 (rGet (List.head? (List.drop 0 x1)) fun x2 =>
 (rGet (fnS (fun (n : Int) => ((AV.dat (D.int IntKind.i64 n)), [])) (P137 [(AV.dat x2)] [])) fun x3 =>
 (some (Ex.norm, (St.mk (mkT 0 92 [(2, (AV.ptr (Ref.loc 0) 0)), (3, (AV.ptr (Ref.loc 1) 0)), (5, (AV.dat (D.list LK.nil 0 ([] : Row)))), (67, (AV.dat (D.list LK.full 1 l))), (68, (AV.dat (D.int IntKind.i64 (((List.length l) : Nat) : Int)))), (69, (AV.dat (D.int IntKind.i64 (IntKind.wrap IntKind.i64 (i + (1 : Int))))))]) (Mem.mk [(Option.some (Ent.obj [(AV.dat (D.int IntKind.i64 (0 : Int))), (AV.dat (D.int IntKind.i64 (0 : Int))), (AV.dat (D.int IntKind.i64 (0 : Int))), (AV.dat (D.str (ByteArray.mk (List.toArray [])))), (AV.dat (D.list LK.nil 0 ([] : Row)))])), (Option.some (Ent.obj [(AV.dat (D.int IntKind.i64 why)), (AV.dat (D.int IntKind.i64 n)), (AV.dat (D.int IntKind.i64 m)), (AV.dat (D.str d)), (AV.sh false 2 1 0 1)])), (Option.some (Ent.row Mode.excl 1 [[(D.int IntKind.i64 x3)]]))] [] 0))))
 )
 )
 )
 none
 )
 (some ((Ex.exit 3), (St.mk (mkT 0 92 [(2, (AV.ptr (Ref.loc 0) 0)), (3, (AV.ptr (Ref.loc 1) 0)), (5, (AV.dat (D.list LK.nil 0 ([] : Row))))]) (Mem.mk [(Option.some (Ent.obj [(AV.dat (D.int IntKind.i64 (0 : Int))), (AV.dat (D.int IntKind.i64 (0 : Int))), (AV.dat (D.int IntKind.i64 (0 : Int))), (AV.dat (D.str (ByteArray.mk (List.toArray [])))), (AV.dat (D.list LK.nil 0 ([] : Row)))])), (Option.some (Ent.obj [(AV.dat (D.int IntKind.i64 why)), (AV.dat (D.int IntKind.i64 n)), (AV.dat (D.int IntKind.i64 m)), (AV.dat (D.str d)), (AV.dat (D.list LK.nil 0 ([] : Row)))]))] [] 0))))
 )
  := by kernel_rfl
theorem rkLnr_eq (why n m : Int) (d : ByteArray) (q l : Row) (i : Int) : (rkLnr why n m d q l i).ev =
 (rAsk (decide (i < (((List.length l) : Nat) : Int)))
 (rAsk (true && ((decide ((0 : Int) ≤ i)) && (decide (i < (((List.length l) : Nat) : Int)))))
 (rGet l[(Int.toNat i)]? fun x1 =>
 (rGet (List.head? (List.drop 0 x1)) fun x2 =>
 (rGet (fnS (fun (n : Int) => ((AV.dat (D.int IntKind.i64 n)), [])) (P137 [(AV.dat x2)] [])) fun x3 =>
 (rAsk ((decide ((0 + (List.length q)) ≤ (List.length q))) && (fits (TI.mk (TK.int IntKind.i64) 1 8 [(AV.dat (D.int IntKind.i64 (0 : Int)))] true) ((List.length q) + 1)))
 (rAsk (true && (decide ((List.length q) = (List.length q))))
 (some (Ex.norm, (St.mk (mkT 0 92 [(2, (AV.ptr (Ref.loc 0) 0)), (3, (AV.ptr (Ref.loc 1) 0)), (5, (AV.dat (D.list LK.nil 0 ([] : Row)))), (67, (AV.dat (D.list LK.full 1 l))), (68, (AV.dat (D.int IntKind.i64 (((List.length l) : Nat) : Int)))), (69, (AV.dat (D.int IntKind.i64 (IntKind.wrap IntKind.i64 (i + (1 : Int))))))]) (Mem.mk [(Option.some (Ent.obj [(AV.dat (D.int IntKind.i64 (0 : Int))), (AV.dat (D.int IntKind.i64 (0 : Int))), (AV.dat (D.int IntKind.i64 (0 : Int))), (AV.dat (D.str (ByteArray.mk (List.toArray [])))), (AV.dat (D.list LK.nil 0 ([] : Row)))])), (Option.some (Ent.obj [(AV.dat (D.int IntKind.i64 why)), (AV.dat (D.int IntKind.i64 n)), (AV.dat (D.int IntKind.i64 m)), (AV.dat (D.str d)), (AV.sh false 2 1 0 ((List.length q) + 1))])), (Option.some (Ent.row Mode.excl 1 (q ++ [[(D.int IntKind.i64 x3)]])))] [] 0))))
 none
 )
 none
 )
 )
 )
 )
 none
 )
 (some ((Ex.exit 3), (St.mk (mkT 0 92 [(2, (AV.ptr (Ref.loc 0) 0)), (3, (AV.ptr (Ref.loc 1) 0)), (5, (AV.dat (D.list LK.nil 0 ([] : Row))))]) (Mem.mk [(Option.some (Ent.obj [(AV.dat (D.int IntKind.i64 (0 : Int))), (AV.dat (D.int IntKind.i64 (0 : Int))), (AV.dat (D.int IntKind.i64 (0 : Int))), (AV.dat (D.str (ByteArray.mk (List.toArray [])))), (AV.dat (D.list LK.nil 0 ([] : Row)))])), (Option.some (Ent.obj [(AV.dat (D.int IntKind.i64 why)), (AV.dat (D.int IntKind.i64 n)), (AV.dat (D.int IntKind.i64 m)), (AV.dat (D.str d)), (AV.sh false 2 1 0 (List.length q))])), (Option.some (Ent.row Mode.excl 1 q))] [] 0))))
 )
  := by kernel_rfl
theorem rkLrn_eq (why n m : Int) (d : ByteArray) (r l : Row) (i : Int) : (rkLrn why n m d r l i).ev =
 (rAsk (decide (i < (((List.length l) : Nat) : Int)))
 (rAsk (true && ((decide ((0 : Int) ≤ i)) && (decide (i < (((List.length l) : Nat) : Int)))))
 (rGet l[(Int.toNat i)]? fun x1 =>
 (rGet (List.head? (List.drop 0 x1)) fun x2 =>
 (rGet (fnS (fun (n : Int) => ((AV.dat (D.int IntKind.i64 n)), [])) (P137 [(AV.dat x2)] [])) fun x3 =>
 (some (Ex.norm, (St.mk (mkT 0 92 [(2, (AV.ptr (Ref.loc 0) 0)), (3, (AV.ptr (Ref.loc 1) 0)), (5, (AV.sh false 2 1 0 (List.length r))), (67, (AV.dat (D.list LK.full 1 l))), (68, (AV.dat (D.int IntKind.i64 (((List.length l) : Nat) : Int)))), (69, (AV.dat (D.int IntKind.i64 (IntKind.wrap IntKind.i64 (i + (1 : Int))))))]) (Mem.mk [(Option.some (Ent.obj [(AV.dat (D.int IntKind.i64 (0 : Int))), (AV.dat (D.int IntKind.i64 (0 : Int))), (AV.dat (D.int IntKind.i64 (0 : Int))), (AV.dat (D.str (ByteArray.mk (List.toArray [])))), (AV.dat (D.list LK.nil 0 ([] : Row)))])), (Option.some (Ent.obj [(AV.dat (D.int IntKind.i64 why)), (AV.dat (D.int IntKind.i64 n)), (AV.dat (D.int IntKind.i64 m)), (AV.dat (D.str d)), (AV.sh false 3 1 0 1)])), (Option.some (Ent.row Mode.excl 1 r)), (Option.some (Ent.row Mode.excl 1 [[(D.int IntKind.i64 x3)]]))] [] 0))))
 )
 )
 )
 none
 )
 (some ((Ex.exit 3), (St.mk (mkT 0 92 [(2, (AV.ptr (Ref.loc 0) 0)), (3, (AV.ptr (Ref.loc 1) 0)), (5, (AV.sh false 2 1 0 (List.length r)))]) (Mem.mk [(Option.some (Ent.obj [(AV.dat (D.int IntKind.i64 (0 : Int))), (AV.dat (D.int IntKind.i64 (0 : Int))), (AV.dat (D.int IntKind.i64 (0 : Int))), (AV.dat (D.str (ByteArray.mk (List.toArray [])))), (AV.dat (D.list LK.nil 0 ([] : Row)))])), (Option.some (Ent.obj [(AV.dat (D.int IntKind.i64 why)), (AV.dat (D.int IntKind.i64 n)), (AV.dat (D.int IntKind.i64 m)), (AV.dat (D.str d)), (AV.dat (D.list LK.nil 0 ([] : Row)))])), (Option.some (Ent.row Mode.excl 1 r))] [] 0))))
 )
  := by kernel_rfl
theorem rkLrr_eq (why n m : Int) (d : ByteArray) (r q l : Row) (i : Int) : (rkLrr why n m d r q l i).ev =
 (rAsk (decide (i < (((List.length l) : Nat) : Int)))
 (rAsk (true && ((decide ((0 : Int) ≤ i)) && (decide (i < (((List.length l) : Nat) : Int)))))
 (rGet l[(Int.toNat i)]? fun x1 =>
 (rGet (List.head? (List.drop 0 x1)) fun x2 =>
 (rGet (fnS (fun (n : Int) => ((AV.dat (D.int IntKind.i64 n)), [])) (P137 [(AV.dat x2)] [])) fun x3 =>
 (rAsk ((decide ((0 + (List.length q)) ≤ (List.length q))) && (fits (TI.mk (TK.int IntKind.i64) 1 8 [(AV.dat (D.int IntKind.i64 (0 : Int)))] true) ((List.length q) + 1)))
 (rAsk (true && (decide ((List.length q) = (List.length q))))
 (some (Ex.norm, (St.mk (mkT 0 92 [(2, (AV.ptr (Ref.loc 0) 0)), (3, (AV.ptr (Ref.loc 1) 0)), (5, (AV.sh false 2 1 0 (List.length r))), (67, (AV.dat (D.list LK.full 1 l))), (68, (AV.dat (D.int IntKind.i64 (((List.length l) : Nat) : Int)))), (69, (AV.dat (D.int IntKind.i64 (IntKind.wrap IntKind.i64 (i + (1 : Int))))))]) (Mem.mk [(Option.some (Ent.obj [(AV.dat (D.int IntKind.i64 (0 : Int))), (AV.dat (D.int IntKind.i64 (0 : Int))), (AV.dat (D.int IntKind.i64 (0 : Int))), (AV.dat (D.str (ByteArray.mk (List.toArray [])))), (AV.dat (D.list LK.nil 0 ([] : Row)))])), (Option.some (Ent.obj [(AV.dat (D.int IntKind.i64 why)), (AV.dat (D.int IntKind.i64 n)), (AV.dat (D.int IntKind.i64 m)), (AV.dat (D.str d)), (AV.sh false 3 1 0 ((List.length q) + 1))])), (Option.some (Ent.row Mode.excl 1 r)), (Option.some (Ent.row Mode.excl 1 (q ++ [[(D.int IntKind.i64 x3)]])))] [] 0))))
 none
 )
 none
 )
 )
 )
 )
 none
 )
 (some ((Ex.exit 3), (St.mk (mkT 0 92 [(2, (AV.ptr (Ref.loc 0) 0)), (3, (AV.ptr (Ref.loc 1) 0)), (5, (AV.sh false 2 1 0 (List.length r)))]) (Mem.mk [(Option.some (Ent.obj [(AV.dat (D.int IntKind.i64 (0 : Int))), (AV.dat (D.int IntKind.i64 (0 : Int))), (AV.dat (D.int IntKind.i64 (0 : Int))), (AV.dat (D.str (ByteArray.mk (List.toArray [])))), (AV.dat (D.list LK.nil 0 ([] : Row)))])), (Option.some (Ent.obj [(AV.dat (D.int IntKind.i64 why)), (AV.dat (D.int IntKind.i64 n)), (AV.dat (D.int IntKind.i64 m)), (AV.dat (D.str d)), (AV.sh false 3 1 0 (List.length q))])), (Option.some (Ent.row Mode.excl 1 r)), (Option.some (Ent.row Mode.excl 1 q))] [] 0))))
 )
  := by kernel_rfl
theorem kFull (n : Nat) : (if ((LK.full = LK.full) ∧ (((n : Nat) : Int) < ((n : Nat) : Int))) then LK.any else LK.full) = LK.full := if_neg (by rintro ⟨_, h⟩; omega)
theorem tl_row (w : List UInt8) (ws : List (List UInt8)) : List.take ((Int.toNat (((List.length (sRow (w :: ws))) : Nat) : Int)) - 1) (List.drop 1 (sRow (w :: ws))) = sRow ws := by
  rw [Int.toNat_natCast, sRow_length, List.length_cons, Nat.add_sub_cancel]
  exact List.take_of_length_le (by rw [List.length_drop, sRow_length, List.length_cons]; omega)
theorem eqw (w c : List UInt8) : ((ba w).toList == c) = decide (w = c) := by
  rw [ba_list, Bool.eq_iff_iff, beq_iff_eq, decide_eq_true_eq]
def pL (w : List UInt8) : Bool := !decide (w = wList)
def obX (why n m : Int) (d : ByteArray) : Option Ent := obA why n m d (.dat (.list .nil 0 []))
attribute [local irreducible] fnS loS tround P137 P138
theorem goDn {why n m : Int} {d : ByteArray} {l : Row} {o} (h : (rkDn why n m d l).ev = o) : (tround TT t120 noLo (HSg 20) lp20d (st1 false why n m d [] l)).run = o := by
  rw [Tr.ev_run] at h
  exact h
theorem goDr {why n m : Int} {d : ByteArray} {r l : Row} {o} (h : (rkDr why n m d r l).ev = o) : (tround TT t120 noLo (HSg 20) lp20d (st1 true why n m d r l)).run = o := by
  rw [Tr.ev_run] at h
  exact h
theorem loopDr {why n m : Int} {d : ByteArray} : ∀ (ws W : List (List UInt8)), W.length + ws.length ≤ 2000 →
    LoopTo TT t120.runs (HSg 20) lp20d (st1 true why n m d (sRow W) (sRow ws)) (outDr (obX why n m d) (sRow (W ++ ws.takeWhile pL), sRow (ws.dropWhile pL)))
  | [], W, h => by
    refine LoopTo.last (orc := t120) (lo := noLo) (fun _ _ _ _ h => h) (LoOk2.no _) (goDr ?_) (by simp [outDr])
    rw [rkDr_eq, List.takeWhile_nil, List.append_nil]
    exact aF rfl rfl
  | w :: ws, W, h => by
    have hlen : (sRow (w :: ws)).length = ws.length + 1 := by rw [sRow_length, List.length_cons]
    have a0 : decide ((((sRow (w :: ws)).length : Nat) : Int) > 0) = true := by rw [decide_eq_true_eq]; omega
    have a1 : (true && (true && (decide ((0 : Int) < (((List.length (sRow (w :: ws))) : Nat) : Int))))) = true := by simp only [Bool.true_and, decide_eq_true_eq]; omega
    have a2 : (true && ((decide ((1 : Int) ≤ (((List.length (sRow (w :: ws))) : Nat) : Int))) && (decide ((((List.length (sRow (w :: ws))) : Nat) : Int) ≤ (((List.length (sRow (w :: ws))) : Nat) : Int))))) = true := by
      simp only [Bool.true_and, Bool.and_eq_true, decide_eq_true_eq]; omega
    by_cases hw : w = wList
    · have e : pL w = false := by unfold pL; rw [decide_eq_true hw]; rfl
      have q1 : ((ba w).toList == [108, 105, 115, 116]) = true := (eqw w wList).trans (decide_eq_true hw)
      rw [List.takeWhile_cons, List.dropWhile_cons, e]
      refine LoopTo.last (orc := t120) (lo := noLo) (fun _ _ _ _ h => h) (LoOk2.no _) (goDr ?_) (by simp [outDr])
      rw [rkDr_eq]
      simp only [Bool.false_eq_true, if_false, List.append_nil]
      exact aT a0 (aT a1 (gStep rfl (gStep rfl (gStep (x := ba w) rfl (aF (by rw [q1]; rfl) rfl)))))
    · have e : pL w = true := by unfold pL; rw [decide_eq_false hw]; rfl
      have q1 : ((ba w).toList == [108, 105, 115, 116]) = false := (eqw w wList).trans (decide_eq_false hw)
      rw [List.takeWhile_cons, List.dropWhile_cons, e]
      simp only [if_true]
      rw [List.length_cons] at h
      have ih := loopDr (why := why) (n := n) (m := m) (d := d) ws (W ++ [w]) (by rw [List.length_append, List.length_singleton]; omega)
      rw [List.append_assoc, List.singleton_append] at ih
      have step : (tround TT t120 noLo (HSg 20) lp20d (st1 true why n m d (sRow W) (sRow (w :: ws)))).run = some (.norm, st1 true why n m d (sRow (W ++ [w])) (sRow ws)) := by
        refine goDr ?_
        rw [rkDr_eq, kFull, tl_row]
        refine aT a0 (aT a1 (gStep rfl (gStep rfl (gStep (x := ba w) rfl (aT (by rw [q1]; rfl) (aT a1 (gStep rfl (gStep (x := D.str (ba w)) rfl (aT ?_ (aT (by simp) (aT a2 ?_)))))))))))
        · rw [Nat.zero_add, Bool.and_eq_true, fits_iff, sRow_length]
          exact ⟨decide_eq_true (Nat.le_refl _), by omega, by omega⟩
        · rw [sRow_snoc]
          unfold st1 dV dE
          simp only [if_true, List.length_append, List.length_singleton]
          rfl
      exact LoopTo.more (orc := t120) (lo := noLo) (fun _ _ _ _ h => h) (LoOk2.no _) step ih
theorem loopDn {why n m : Int} {d : ByteArray} {ws : List (List UInt8)} (h : ws.length ≤ 2000) :
    if ws.takeWhile pL = [] then LoopTo TT t120.runs (HSg 20) lp20d (st1 false why n m d [] (sRow ws)) (outDn (obX why n m d) (sRow ws))
    else LoopTo TT t120.runs (HSg 20) lp20d (st1 false why n m d [] (sRow ws)) (outDr (obX why n m d) (sRow (ws.takeWhile pL), sRow (ws.dropWhile pL))) := by
  cases ws with
  | nil =>
    rw [List.takeWhile_nil, if_pos rfl]
    refine LoopTo.last (orc := t120) (lo := noLo) (fun _ _ _ _ h => h) (LoOk2.no _) (goDn ?_) (by simp [outDn])
    rw [rkDn_eq]
    exact aF rfl rfl
  | cons w ws =>
    have hlen : (sRow (w :: ws)).length = ws.length + 1 := by rw [sRow_length, List.length_cons]
    have a0 : decide ((((sRow (w :: ws)).length : Nat) : Int) > 0) = true := by rw [decide_eq_true_eq]; omega
    have a1 : (true && (true && (decide ((0 : Int) < (((List.length (sRow (w :: ws))) : Nat) : Int))))) = true := by simp only [Bool.true_and, decide_eq_true_eq]; omega
    have a2 : (true && ((decide ((1 : Int) ≤ (((List.length (sRow (w :: ws))) : Nat) : Int))) && (decide ((((List.length (sRow (w :: ws))) : Nat) : Int) ≤ (((List.length (sRow (w :: ws))) : Nat) : Int))))) = true := by
      simp only [Bool.true_and, Bool.and_eq_true, decide_eq_true_eq]; omega
    by_cases hw : w = wList
    · have e : pL w = false := by unfold pL; rw [decide_eq_true hw]; rfl
      have q1 : ((ba w).toList == [108, 105, 115, 116]) = true := (eqw w wList).trans (decide_eq_true hw)
      rw [List.takeWhile_cons, e, if_pos (by simp)]
      refine LoopTo.last (orc := t120) (lo := noLo) (fun _ _ _ _ h => h) (LoOk2.no _) (goDn ?_) (by simp [outDn])
      rw [rkDn_eq]
      exact aT a0 (aT a1 (gStep rfl (gStep rfl (gStep (x := ba w) rfl (aF (by rw [q1]; rfl) rfl)))))
    · have e : pL w = true := by unfold pL; rw [decide_eq_false hw]; rfl
      have q1 : ((ba w).toList == [108, 105, 115, 116]) = false := (eqw w wList).trans (decide_eq_false hw)
      rw [List.takeWhile_cons, List.dropWhile_cons, e, if_neg (by simp)]
      simp only [if_true]
      rw [List.length_cons] at h
      have ih := loopDr (why := why) (n := n) (m := m) (d := d) ws [w] (by rw [List.length_singleton]; omega)
      rw [List.singleton_append] at ih
      have step : (tround TT t120 noLo (HSg 20) lp20d (st1 false why n m d [] (sRow (w :: ws)))).run = some (.norm, st1 true why n m d (sRow [w]) (sRow ws)) := by
        refine goDn ?_
        rw [rkDn_eq, kFull, tl_row]
        exact aT a0 (aT a1 (gStep rfl (gStep rfl (gStep (x := ba w) rfl (aT (by rw [q1]; rfl) (aT a1 (gStep rfl (gStep (x := D.str (ba w)) rfl (aT a2 rfl)))))))))
      exact LoopTo.more (orc := t120) (lo := noLo) (fun _ _ _ _ h => h) (LoOk2.no _) step ih
/-! ### the list's words -/
theorem goLnr {why n m : Int} {d : ByteArray} {q l : Row} {i : Int} {o} (h : (rkLnr why n m d q l i).ev = o) : (tround TT t120 noLo (HSg 20) lp20l (invL false true why n m d [] q l i)).run = o := by
  rw [Tr.ev_run] at h
  exact h
theorem goLrr {why n m : Int} {d : ByteArray} {r q l : Row} {i : Int} {o} (h : (rkLrr why n m d r q l i).ev = o) : (tround TT t120 noLo (HSg 20) lp20l (invL true true why n m d r q l i)).run = o := by
  rw [Tr.ev_run] at h
  exact h
theorem goLnn {why n m : Int} {d : ByteArray} {l : Row} {i : Int} {o} (h : (rkLnn why n m d l i).ev = o) : (tround TT t120 noLo (HSg 20) lp20l (invL false false why n m d [] [] l i)).run = o := by
  rw [Tr.ev_run] at h
  exact h
theorem goLrn {why n m : Int} {d : ByteArray} {r l : Row} {i : Int} {o} (h : (rkLrn why n m d r l i).ev = o) : (tround TT t120 noLo (HSg 20) lp20l (invL true false why n m d r [] l i)).run = o := by
  rw [Tr.ev_run] at h
  exact h
theorem sRow_get {pre ws : List (List UInt8)} {w : List UInt8} : (sRow (pre ++ w :: ws))[Int.toNat ((pre.length : Nat) : Int)]? = some [.str (ba w)] := by
  rw [Int.toNat_natCast, sRow, List.getElem?_map]
  simp
theorem encI_snoc (Q : List Int) (v : Int) : encI (Q ++ [v]) = encI Q ++ [[.int .i64 v]] := by simp [encI]
theorem loopLnr {why n m : Int} {d : ByteArray} : ∀ (ws pre : List (List UInt8)) (Q : List Int), (pre ++ ws).length ≤ 2000 → Q.length + ws.length ≤ 2000 → (∀ w ∈ ws, w.length ≤ 3000) →
    LoopTo TT t120.runs (HSg 20) lp20l (invL false true why n m d [] (encI Q) (sRow (pre ++ ws)) pre.length) (outL (.dat (.list .nil 0 [])) (obX why n m d) [] (encI (Q ++ ws.map numP)))
  | [], pre, Q, _, _, _ => by
    refine LoopTo.last (orc := t120) (lo := noLo) (fun _ _ _ _ h => h) (LoOk2.no _) (goLnr ?_) (by simp [outL])
    rw [rkLnr_eq, List.append_nil, List.map_nil, List.append_nil]
    exact aF (by rw [decide_eq_false_iff_not, sRow_length]; omega) rfl
  | w :: ws, pre, Q, h, hQ, hw => by
    have hlen : (sRow (pre ++ w :: ws)).length = pre.length + ws.length + 1 := by rw [sRow_length, List.length_append, List.length_cons]; omega
    have hl := h
    rw [List.length_append, List.length_cons] at hl
    rw [List.length_cons] at hQ
    have hb : (true && ((decide ((0 : Int) ≤ ((pre.length : Nat) : Int))) && (decide (((pre.length : Nat) : Int) < (((List.length (sRow (pre ++ w :: ws))) : Nat) : Int))))) = true := by
      simp only [Bool.true_and, Bool.and_eq_true, decide_eq_true_eq]; omega
    have step : (tround TT t120 noLo (HSg 20) lp20l (invL false true why n m d [] (encI Q) (sRow (pre ++ w :: ws)) pre.length)).run = some (.norm, invL false true why n m d [] (encI (Q ++ [numP w])) (sRow (pre ++ w :: ws)) ((pre.length + 1 : Nat) : Int)) := by
      refine goLnr ?_
      rw [rkLnr_eq, w64 (n := pre.length + 1) (by omega) (x := ((pre.length : Nat) : Int) + 1) (by omega)]
      refine aT (by rw [decide_eq_true_eq]; omega) (aT hb (gStep sRow_get (gStep rfl (gStep (fnS_eq (out := oI []) oI_inj (p137 (hw w (by simp)) [])) (aT ?_ (aT (by simp) ?_))))))
      · rw [Nat.zero_add, Bool.and_eq_true, fits_iff, encI_len]
        exact ⟨decide_eq_true (Nat.le_refl _), by omega, by omega⟩
      · rw [encI_snoc]
        unfold invL cL dE
        simp only [if_true, List.length_append, List.length_singleton]
        rfl
    have ih := loopLnr (why := why) (n := n) (m := m) (d := d) ws (pre ++ [w]) (Q ++ [numP w]) (by simpa using h) (by rw [List.length_append, List.length_singleton]; omega) (fun v hv => hw v (by simp [hv]))
    rw [show pre ++ [w] ++ ws = pre ++ w :: ws by simp, show List.length (pre ++ [w]) = pre.length + 1 by simp, List.append_assoc] at ih
    exact LoopTo.more (orc := t120) (lo := noLo) (fun _ _ _ _ h => h) (LoOk2.no _) step ih
theorem loopLrr {why n m : Int} {d : ByteArray} {r : Row} : ∀ (ws pre : List (List UInt8)) (Q : List Int), (pre ++ ws).length ≤ 2000 → Q.length + ws.length ≤ 2000 → (∀ w ∈ ws, w.length ≤ 3000) →
    LoopTo TT t120.runs (HSg 20) lp20l (invL true true why n m d r (encI Q) (sRow (pre ++ ws)) pre.length) (outL (.sh false 2 1 0 r.length) (obX why n m d) [some (.row .excl 1 r)] (encI (Q ++ ws.map numP)))
  | [], pre, Q, _, _, _ => by
    refine LoopTo.last (orc := t120) (lo := noLo) (fun _ _ _ _ h => h) (LoOk2.no _) (goLrr ?_) (by simp [outL])
    rw [rkLrr_eq, List.append_nil, List.map_nil, List.append_nil]
    exact aF (by rw [decide_eq_false_iff_not, sRow_length]; omega) rfl
  | w :: ws, pre, Q, h, hQ, hw => by
    have hlen : (sRow (pre ++ w :: ws)).length = pre.length + ws.length + 1 := by rw [sRow_length, List.length_append, List.length_cons]; omega
    have hl := h
    rw [List.length_append, List.length_cons] at hl
    rw [List.length_cons] at hQ
    have hb : (true && ((decide ((0 : Int) ≤ ((pre.length : Nat) : Int))) && (decide (((pre.length : Nat) : Int) < (((List.length (sRow (pre ++ w :: ws))) : Nat) : Int))))) = true := by
      simp only [Bool.true_and, Bool.and_eq_true, decide_eq_true_eq]; omega
    have step : (tround TT t120 noLo (HSg 20) lp20l (invL true true why n m d r (encI Q) (sRow (pre ++ w :: ws)) pre.length)).run = some (.norm, invL true true why n m d r (encI (Q ++ [numP w])) (sRow (pre ++ w :: ws)) ((pre.length + 1 : Nat) : Int)) := by
      refine goLrr ?_
      rw [rkLrr_eq, w64 (n := pre.length + 1) (by omega) (x := ((pre.length : Nat) : Int) + 1) (by omega)]
      refine aT (by rw [decide_eq_true_eq]; omega) (aT hb (gStep sRow_get (gStep rfl (gStep (fnS_eq (out := oI []) oI_inj (p137 (hw w (by simp)) [])) (aT ?_ (aT (by simp) ?_))))))
      · rw [Nat.zero_add, Bool.and_eq_true, fits_iff, encI_len]
        exact ⟨decide_eq_true (Nat.le_refl _), by omega, by omega⟩
      · rw [encI_snoc]
        unfold invL cL dE
        simp only [if_true, List.length_append, List.length_singleton]
        rfl
    have ih := loopLrr (why := why) (n := n) (m := m) (d := d) (r := r) ws (pre ++ [w]) (Q ++ [numP w]) (by simpa using h) (by rw [List.length_append, List.length_singleton]; omega) (fun v hv => hw v (by simp [hv]))
    rw [show pre ++ [w] ++ ws = pre ++ w :: ws by simp, show List.length (pre ++ [w]) = pre.length + 1 by simp, List.append_assoc] at ih
    exact LoopTo.more (orc := t120) (lo := noLo) (fun _ _ _ _ h => h) (LoOk2.no _) step ih
end Go.Eng
end

/- Answers as lines: the jumps of guess. -/
section
namespace Go.Eng
open Go
set_option maxRecDepth 100000
set_option linter.unusedSimpArgs false

theorem g1n_eq (why n m : Int) (d : ByteArray) (l : Row) : (g1n why n m d l).ev =
 (rAsk (decide ((((List.length l) : Nat) : Int) < (2 : Int)))
 (some ((Ex.goto 0), (St.mk (mkT 0 92 [(2, (AV.ptr (Ref.loc 0) 0)), (3, (AV.ptr (Ref.loc 1) 0)), (5, (AV.dat (D.list LK.nil 0 ([] : Row))))]) (Mem.mk [(Option.some (Ent.obj [(AV.dat (D.int IntKind.i64 (0 : Int))), (AV.dat (D.int IntKind.i64 (0 : Int))), (AV.dat (D.int IntKind.i64 (0 : Int))), (AV.dat (D.str (ByteArray.mk (List.toArray [])))), (AV.dat (D.list LK.nil 0 ([] : Row)))])), (Option.some (Ent.obj [(AV.dat (D.int IntKind.i64 why)), (AV.dat (D.int IntKind.i64 n)), (AV.dat (D.int IntKind.i64 m)), (AV.dat (D.str d)), (AV.dat (D.list LK.nil 0 ([] : Row)))]))] [] 0))))
 (rAsk (true && (true && (decide ((0 : Int) < (((List.length l) : Nat) : Int)))))
 (rGet l[0]? fun x1 =>
 (rGet (List.head? (List.drop 0 x1)) fun x2 =>
 (rAsk (true && ((decide ((1 : Int) ≤ (((List.length l) : Nat) : Int))) && (decide ((((List.length l) : Nat) : Int) ≤ (((List.length l) : Nat) : Int)))))
 (rGet (D.str? x2) fun x3 =>
 (rAsk ((ByteArray.toList x3) == [119, 104, 121])
 (rAsk (true && (true && (decide ((0 : Int) < (((List.length (List.take ((Int.toNat (((List.length l) : Nat) : Int)) - 1) (List.drop 1 l))) : Nat) : Int)))))
 (rGet (List.take ((Int.toNat (((List.length l) : Nat) : Int)) - 1) (List.drop 1 l))[0]? fun x4 =>
 (rGet (List.head? (List.drop 0 x4)) fun x5 =>
 (rGet (fnS (fun (n : Int) => ((AV.dat (D.int IntKind.i64 n)), [])) (P137 [(AV.dat x5)] [])) fun x6 =>
 (rAsk (true && ((decide ((1 : Int) ≤ (((List.length (List.take ((Int.toNat (((List.length l) : Nat) : Int)) - 1) (List.drop 1 l))) : Nat) : Int))) && (decide ((((List.length (List.take ((Int.toNat (((List.length l) : Nat) : Int)) - 1) (List.drop 1 l))) : Nat) : Int) ≤ (((List.length (List.take ((Int.toNat (((List.length l) : Nat) : Int)) - 1) (List.drop 1 l))) : Nat) : Int)))))
 (rAsk ((decide ((if ((LK.full = LK.full) ∧ ((((List.length l) : Nat) : Int) < (((List.length l) : Nat) : Int))) then LK.any else LK.full) = LK.nil)) || true)
 (some ((Ex.goto 1), (St.mk (mkT 0 92 [(0, (AV.dat (D.list (if (((if ((LK.full = LK.full) ∧ ((((List.length l) : Nat) : Int) < (((List.length l) : Nat) : Int))) then LK.any else LK.full) = LK.full) ∧ ((((List.length (List.take ((Int.toNat (((List.length l) : Nat) : Int)) - 1) (List.drop 1 l))) : Nat) : Int) < (((List.length (List.take ((Int.toNat (((List.length l) : Nat) : Int)) - 1) (List.drop 1 l))) : Nat) : Int))) then LK.any else (if ((LK.full = LK.full) ∧ ((((List.length l) : Nat) : Int) < (((List.length l) : Nat) : Int))) then LK.any else LK.full)) 1 (List.take ((Int.toNat (((List.length (List.take ((Int.toNat (((List.length l) : Nat) : Int)) - 1) (List.drop 1 l))) : Nat) : Int)) - 1) (List.drop 1 (List.take ((Int.toNat (((List.length l) : Nat) : Int)) - 1) (List.drop 1 l))))))), (2, (AV.ptr (Ref.loc 0) 0)), (3, (AV.ptr (Ref.loc 1) 0)), (5, (AV.dat (D.list LK.nil 0 ([] : Row))))]) (Mem.mk [(Option.some (Ent.obj [(AV.dat (D.int IntKind.i64 (0 : Int))), (AV.dat (D.int IntKind.i64 (0 : Int))), (AV.dat (D.int IntKind.i64 (0 : Int))), (AV.dat (D.str (ByteArray.mk (List.toArray [])))), (AV.dat (D.list LK.nil 0 ([] : Row)))])), (Option.some (Ent.obj [(AV.dat (D.int IntKind.i64 x6)), (AV.dat (D.int IntKind.i64 n)), (AV.dat (D.int IntKind.i64 m)), (AV.dat (D.str d)), (AV.dat (D.list LK.nil 0 ([] : Row)))]))] [] 0))))
 none
 )
 none
 )
 )
 )
 )
 none
 )
 (rGet (D.str? x2) fun x7 =>
 (rAsk ((ByteArray.toList x7) == [110])
 (rAsk (true && (true && (decide ((0 : Int) < (((List.length (List.take ((Int.toNat (((List.length l) : Nat) : Int)) - 1) (List.drop 1 l))) : Nat) : Int)))))
 (rGet (List.take ((Int.toNat (((List.length l) : Nat) : Int)) - 1) (List.drop 1 l))[0]? fun x8 =>
 (rGet (List.head? (List.drop 0 x8)) fun x9 =>
 (rGet (fnS (fun (n : Int) => ((AV.dat (D.int IntKind.i64 n)), [])) (P137 [(AV.dat x9)] [])) fun x10 =>
 (rAsk (true && ((decide ((1 : Int) ≤ (((List.length (List.take ((Int.toNat (((List.length l) : Nat) : Int)) - 1) (List.drop 1 l))) : Nat) : Int))) && (decide ((((List.length (List.take ((Int.toNat (((List.length l) : Nat) : Int)) - 1) (List.drop 1 l))) : Nat) : Int) ≤ (((List.length (List.take ((Int.toNat (((List.length l) : Nat) : Int)) - 1) (List.drop 1 l))) : Nat) : Int)))))
 (rAsk ((decide ((if ((LK.full = LK.full) ∧ ((((List.length l) : Nat) : Int) < (((List.length l) : Nat) : Int))) then LK.any else LK.full) = LK.nil)) || true)
 (some ((Ex.goto 1), (St.mk (mkT 0 92 [(0, (AV.dat (D.list (if (((if ((LK.full = LK.full) ∧ ((((List.length l) : Nat) : Int) < (((List.length l) : Nat) : Int))) then LK.any else LK.full) = LK.full) ∧ ((((List.length (List.take ((Int.toNat (((List.length l) : Nat) : Int)) - 1) (List.drop 1 l))) : Nat) : Int) < (((List.length (List.take ((Int.toNat (((List.length l) : Nat) : Int)) - 1) (List.drop 1 l))) : Nat) : Int))) then LK.any else (if ((LK.full = LK.full) ∧ ((((List.length l) : Nat) : Int) < (((List.length l) : Nat) : Int))) then LK.any else LK.full)) 1 (List.take ((Int.toNat (((List.length (List.take ((Int.toNat (((List.length l) : Nat) : Int)) - 1) (List.drop 1 l))) : Nat) : Int)) - 1) (List.drop 1 (List.take ((Int.toNat (((List.length l) : Nat) : Int)) - 1) (List.drop 1 l))))))), (2, (AV.ptr (Ref.loc 0) 0)), (3, (AV.ptr (Ref.loc 1) 0)), (5, (AV.dat (D.list LK.nil 0 ([] : Row))))]) (Mem.mk [(Option.some (Ent.obj [(AV.dat (D.int IntKind.i64 (0 : Int))), (AV.dat (D.int IntKind.i64 (0 : Int))), (AV.dat (D.int IntKind.i64 (0 : Int))), (AV.dat (D.str (ByteArray.mk (List.toArray [])))), (AV.dat (D.list LK.nil 0 ([] : Row)))])), (Option.some (Ent.obj [(AV.dat (D.int IntKind.i64 why)), (AV.dat (D.int IntKind.i64 x10)), (AV.dat (D.int IntKind.i64 m)), (AV.dat (D.str d)), (AV.dat (D.list LK.nil 0 ([] : Row)))]))] [] 0))))
 none
 )
 none
 )
 )
 )
 )
 none
 )
 (rGet (D.str? x2) fun x11 =>
 (rAsk ((ByteArray.toList x11) == [109])
 (rAsk (true && (true && (decide ((0 : Int) < (((List.length (List.take ((Int.toNat (((List.length l) : Nat) : Int)) - 1) (List.drop 1 l))) : Nat) : Int)))))
 (rGet (List.take ((Int.toNat (((List.length l) : Nat) : Int)) - 1) (List.drop 1 l))[0]? fun x12 =>
 (rGet (List.head? (List.drop 0 x12)) fun x13 =>
 (rGet (fnS (fun (n : Int) => ((AV.dat (D.int IntKind.i64 n)), [])) (P137 [(AV.dat x13)] [])) fun x14 =>
 (rAsk (true && ((decide ((1 : Int) ≤ (((List.length (List.take ((Int.toNat (((List.length l) : Nat) : Int)) - 1) (List.drop 1 l))) : Nat) : Int))) && (decide ((((List.length (List.take ((Int.toNat (((List.length l) : Nat) : Int)) - 1) (List.drop 1 l))) : Nat) : Int) ≤ (((List.length (List.take ((Int.toNat (((List.length l) : Nat) : Int)) - 1) (List.drop 1 l))) : Nat) : Int)))))
 (rAsk ((decide ((if ((LK.full = LK.full) ∧ ((((List.length l) : Nat) : Int) < (((List.length l) : Nat) : Int))) then LK.any else LK.full) = LK.nil)) || true)
 (some ((Ex.goto 1), (St.mk (mkT 0 92 [(0, (AV.dat (D.list (if (((if ((LK.full = LK.full) ∧ ((((List.length l) : Nat) : Int) < (((List.length l) : Nat) : Int))) then LK.any else LK.full) = LK.full) ∧ ((((List.length (List.take ((Int.toNat (((List.length l) : Nat) : Int)) - 1) (List.drop 1 l))) : Nat) : Int) < (((List.length (List.take ((Int.toNat (((List.length l) : Nat) : Int)) - 1) (List.drop 1 l))) : Nat) : Int))) then LK.any else (if ((LK.full = LK.full) ∧ ((((List.length l) : Nat) : Int) < (((List.length l) : Nat) : Int))) then LK.any else LK.full)) 1 (List.take ((Int.toNat (((List.length (List.take ((Int.toNat (((List.length l) : Nat) : Int)) - 1) (List.drop 1 l))) : Nat) : Int)) - 1) (List.drop 1 (List.take ((Int.toNat (((List.length l) : Nat) : Int)) - 1) (List.drop 1 l))))))), (2, (AV.ptr (Ref.loc 0) 0)), (3, (AV.ptr (Ref.loc 1) 0)), (5, (AV.dat (D.list LK.nil 0 ([] : Row))))]) (Mem.mk [(Option.some (Ent.obj [(AV.dat (D.int IntKind.i64 (0 : Int))), (AV.dat (D.int IntKind.i64 (0 : Int))), (AV.dat (D.int IntKind.i64 (0 : Int))), (AV.dat (D.str (ByteArray.mk (List.toArray [])))), (AV.dat (D.list LK.nil 0 ([] : Row)))])), (Option.some (Ent.obj [(AV.dat (D.int IntKind.i64 why)), (AV.dat (D.int IntKind.i64 n)), (AV.dat (D.int IntKind.i64 x14)), (AV.dat (D.str d)), (AV.dat (D.list LK.nil 0 ([] : Row)))]))] [] 0))))
 none
 )
 none
 )
 )
 )
 )
 none
 )
 (rGet (D.str? x2) fun x15 =>
 (rAsk ((ByteArray.toList x15) == [100, 97, 116, 97])
 (rAsk (Option.isSome (loS TT (TOrc.runs t120) (HSg 20) lp20d (outDn (Option.some (Ent.obj [(AV.dat (D.int IntKind.i64 why)), (AV.dat (D.int IntKind.i64 n)), (AV.dat (D.int IntKind.i64 m)), (AV.dat (D.str d)), (AV.dat (D.list LK.nil 0 ([] : Row)))]))) (St.mk (mkT 0 92 [(0, (AV.dat (D.list (if ((LK.full = LK.full) ∧ ((((List.length l) : Nat) : Int) < (((List.length l) : Nat) : Int))) then LK.any else LK.full) 1 (List.take ((Int.toNat (((List.length l) : Nat) : Int)) - 1) (List.drop 1 l))))), (2, (AV.ptr (Ref.loc 0) 0)), (3, (AV.ptr (Ref.loc 1) 0)), (5, (AV.dat (D.list LK.nil 0 ([] : Row))))]) (Mem.mk [(Option.some (Ent.obj [(AV.dat (D.int IntKind.i64 (0 : Int))), (AV.dat (D.int IntKind.i64 (0 : Int))), (AV.dat (D.int IntKind.i64 (0 : Int))), (AV.dat (D.str (ByteArray.mk (List.toArray [])))), (AV.dat (D.list LK.nil 0 ([] : Row)))])), (Option.some (Ent.obj [(AV.dat (D.int IntKind.i64 why)), (AV.dat (D.int IntKind.i64 n)), (AV.dat (D.int IntKind.i64 m)), (AV.dat (D.str d)), (AV.dat (D.list LK.nil 0 ([] : Row)))]))] [] 0))))
 (rGet (loS TT (TOrc.runs t120) (HSg 20) lp20d (outDn (Option.some (Ent.obj [(AV.dat (D.int IntKind.i64 why)), (AV.dat (D.int IntKind.i64 n)), (AV.dat (D.int IntKind.i64 m)), (AV.dat (D.str d)), (AV.dat (D.list LK.nil 0 ([] : Row)))]))) (St.mk (mkT 0 92 [(0, (AV.dat (D.list (if ((LK.full = LK.full) ∧ ((((List.length l) : Nat) : Int) < (((List.length l) : Nat) : Int))) then LK.any else LK.full) 1 (List.take ((Int.toNat (((List.length l) : Nat) : Int)) - 1) (List.drop 1 l))))), (2, (AV.ptr (Ref.loc 0) 0)), (3, (AV.ptr (Ref.loc 1) 0)), (5, (AV.dat (D.list LK.nil 0 ([] : Row))))]) (Mem.mk [(Option.some (Ent.obj [(AV.dat (D.int IntKind.i64 (0 : Int))), (AV.dat (D.int IntKind.i64 (0 : Int))), (AV.dat (D.int IntKind.i64 (0 : Int))), (AV.dat (D.str (ByteArray.mk (List.toArray [])))), (AV.dat (D.list LK.nil 0 ([] : Row)))])), (Option.some (Ent.obj [(AV.dat (D.int IntKind.i64 why)), (AV.dat (D.int IntKind.i64 n)), (AV.dat (D.int IntKind.i64 m)), (AV.dat (D.str d)), (AV.dat (D.list LK.nil 0 ([] : Row)))]))] [] 0))) fun x16 =>
 (some ((Ex.goto 1), (St.mk (mkT 0 92 [(0, (AV.dat (D.list LK.full 1 x16))), (2, (AV.ptr (Ref.loc 0) 0)), (3, (AV.ptr (Ref.loc 1) 0)), (5, (AV.dat (D.list LK.nil 0 ([] : Row))))]) (Mem.mk [(Option.some (Ent.obj [(AV.dat (D.int IntKind.i64 (0 : Int))), (AV.dat (D.int IntKind.i64 (0 : Int))), (AV.dat (D.int IntKind.i64 (0 : Int))), (AV.dat (D.str (ByteArray.mk (List.toArray [])))), (AV.dat (D.list LK.nil 0 ([] : Row)))])), (Option.some (Ent.obj [(AV.dat (D.int IntKind.i64 why)), (AV.dat (D.int IntKind.i64 n)), (AV.dat (D.int IntKind.i64 m)), (AV.dat (D.str d)), (AV.dat (D.list LK.nil 0 ([] : Row)))]))] [] 0))))
 )
 (rGet (loS TT (TOrc.runs t120) (HSg 20) lp20d (outDr (Option.some (Ent.obj [(AV.dat (D.int IntKind.i64 why)), (AV.dat (D.int IntKind.i64 n)), (AV.dat (D.int IntKind.i64 m)), (AV.dat (D.str d)), (AV.dat (D.list LK.nil 0 ([] : Row)))]))) (St.mk (mkT 0 92 [(0, (AV.dat (D.list (if ((LK.full = LK.full) ∧ ((((List.length l) : Nat) : Int) < (((List.length l) : Nat) : Int))) then LK.any else LK.full) 1 (List.take ((Int.toNat (((List.length l) : Nat) : Int)) - 1) (List.drop 1 l))))), (2, (AV.ptr (Ref.loc 0) 0)), (3, (AV.ptr (Ref.loc 1) 0)), (5, (AV.dat (D.list LK.nil 0 ([] : Row))))]) (Mem.mk [(Option.some (Ent.obj [(AV.dat (D.int IntKind.i64 (0 : Int))), (AV.dat (D.int IntKind.i64 (0 : Int))), (AV.dat (D.int IntKind.i64 (0 : Int))), (AV.dat (D.str (ByteArray.mk (List.toArray [])))), (AV.dat (D.list LK.nil 0 ([] : Row)))])), (Option.some (Ent.obj [(AV.dat (D.int IntKind.i64 why)), (AV.dat (D.int IntKind.i64 n)), (AV.dat (D.int IntKind.i64 m)), (AV.dat (D.str d)), (AV.dat (D.list LK.nil 0 ([] : Row)))]))] [] 0))) fun x17 =>
 (some ((Ex.goto 1), (St.mk (mkT 0 92 [(0, (AV.dat (D.list LK.full 1 x17.2))), (2, (AV.ptr (Ref.loc 0) 0)), (3, (AV.ptr (Ref.loc 1) 0)), (5, (AV.sh false 2 1 0 (List.length x17.1)))]) (Mem.mk [(Option.some (Ent.obj [(AV.dat (D.int IntKind.i64 (0 : Int))), (AV.dat (D.int IntKind.i64 (0 : Int))), (AV.dat (D.int IntKind.i64 (0 : Int))), (AV.dat (D.str (ByteArray.mk (List.toArray [])))), (AV.dat (D.list LK.nil 0 ([] : Row)))])), (Option.some (Ent.obj [(AV.dat (D.int IntKind.i64 why)), (AV.dat (D.int IntKind.i64 n)), (AV.dat (D.int IntKind.i64 m)), (AV.dat (D.str d)), (AV.dat (D.list LK.nil 0 ([] : Row)))])), (Option.some (Ent.row Mode.excl 1 x17.1))] [] 0))))
 )
 )
 (rGet (D.str? x2) fun x18 =>
 (rAsk ((ByteArray.toList x18) == [108, 105, 115, 116])
 (rGet (loS TT (TOrc.runs t120) (HSg 20) lp20l (outL (AV.dat (D.list LK.nil 0 ([] : Row))) (Option.some (Ent.obj [(AV.dat (D.int IntKind.i64 why)), (AV.dat (D.int IntKind.i64 n)), (AV.dat (D.int IntKind.i64 m)), (AV.dat (D.str d)), (AV.dat (D.list LK.nil 0 ([] : Row)))])) []) (St.mk (mkT 0 92 [(2, (AV.ptr (Ref.loc 0) 0)), (3, (AV.ptr (Ref.loc 1) 0)), (5, (AV.dat (D.list LK.nil 0 ([] : Row)))), (67, (AV.dat (D.list (if ((LK.full = LK.full) ∧ ((((List.length l) : Nat) : Int) < (((List.length l) : Nat) : Int))) then LK.any else LK.full) 1 (List.take ((Int.toNat (((List.length l) : Nat) : Int)) - 1) (List.drop 1 l))))), (68, (AV.dat (D.int IntKind.i64 (((List.length (List.take ((Int.toNat (((List.length l) : Nat) : Int)) - 1) (List.drop 1 l))) : Nat) : Int)))), (69, (AV.dat (D.int IntKind.i64 (0 : Int))))]) (Mem.mk [(Option.some (Ent.obj [(AV.dat (D.int IntKind.i64 (0 : Int))), (AV.dat (D.int IntKind.i64 (0 : Int))), (AV.dat (D.int IntKind.i64 (0 : Int))), (AV.dat (D.str (ByteArray.mk (List.toArray [])))), (AV.dat (D.list LK.nil 0 ([] : Row)))])), (Option.some (Ent.obj [(AV.dat (D.int IntKind.i64 why)), (AV.dat (D.int IntKind.i64 n)), (AV.dat (D.int IntKind.i64 m)), (AV.dat (D.str d)), (AV.dat (D.list LK.nil 0 ([] : Row)))]))] [] 0))) fun x19 =>
 (some ((Ex.goto 0), (St.mk (mkT 0 92 [(2, (AV.ptr (Ref.loc 0) 0)), (3, (AV.ptr (Ref.loc 1) 0)), (5, (AV.dat (D.list LK.nil 0 ([] : Row))))]) (Mem.mk [(Option.some (Ent.obj [(AV.dat (D.int IntKind.i64 (0 : Int))), (AV.dat (D.int IntKind.i64 (0 : Int))), (AV.dat (D.int IntKind.i64 (0 : Int))), (AV.dat (D.str (ByteArray.mk (List.toArray [])))), (AV.dat (D.list LK.nil 0 ([] : Row)))])), (Option.some (Ent.obj [(AV.dat (D.int IntKind.i64 why)), (AV.dat (D.int IntKind.i64 n)), (AV.dat (D.int IntKind.i64 m)), (AV.dat (D.str d)), (AV.sh false 2 1 0 (List.length x19))])), (Option.some (Ent.row Mode.excl 1 x19))] [] 0))))
 )
 (some ((Ex.goto 0), (St.mk (mkT 0 92 [(2, (AV.ptr (Ref.loc 0) 0)), (3, (AV.ptr (Ref.loc 1) 0)), (5, (AV.dat (D.list LK.nil 0 ([] : Row))))]) (Mem.mk [(Option.some (Ent.obj [(AV.dat (D.int IntKind.i64 (0 : Int))), (AV.dat (D.int IntKind.i64 (0 : Int))), (AV.dat (D.int IntKind.i64 (0 : Int))), (AV.dat (D.str (ByteArray.mk (List.toArray [])))), (AV.dat (D.list LK.nil 0 ([] : Row)))])), (Option.some (Ent.obj [(AV.dat (D.int IntKind.i64 why)), (AV.dat (D.int IntKind.i64 n)), (AV.dat (D.int IntKind.i64 m)), (AV.dat (D.str d)), (AV.dat (D.list LK.nil 0 ([] : Row)))]))] [] 0))))
 )
 )
 )
 )
 )
 )
 )
 )
 )
 )
 none
 )
 )
 )
 none
 )
 )
  := by kernel_rfl
theorem g1r_eq (why n m : Int) (d : ByteArray) (r l : Row) : (g1r why n m d r l).ev =
 (rAsk (decide ((((List.length l) : Nat) : Int) < (2 : Int)))
 (some ((Ex.goto 0), (St.mk (mkT 0 92 [(2, (AV.ptr (Ref.loc 0) 0)), (3, (AV.ptr (Ref.loc 1) 0)), (5, (AV.sh false 2 1 0 (List.length r)))]) (Mem.mk [(Option.some (Ent.obj [(AV.dat (D.int IntKind.i64 (0 : Int))), (AV.dat (D.int IntKind.i64 (0 : Int))), (AV.dat (D.int IntKind.i64 (0 : Int))), (AV.dat (D.str (ByteArray.mk (List.toArray [])))), (AV.dat (D.list LK.nil 0 ([] : Row)))])), (Option.some (Ent.obj [(AV.dat (D.int IntKind.i64 why)), (AV.dat (D.int IntKind.i64 n)), (AV.dat (D.int IntKind.i64 m)), (AV.dat (D.str d)), (AV.dat (D.list LK.nil 0 ([] : Row)))])), (Option.some (Ent.row Mode.excl 1 r))] [] 0))))
 (rAsk (true && (true && (decide ((0 : Int) < (((List.length l) : Nat) : Int)))))
 (rGet l[0]? fun x1 =>
 (rGet (List.head? (List.drop 0 x1)) fun x2 =>
 (rAsk (true && ((decide ((1 : Int) ≤ (((List.length l) : Nat) : Int))) && (decide ((((List.length l) : Nat) : Int) ≤ (((List.length l) : Nat) : Int)))))
 (rGet (D.str? x2) fun x3 =>
 (rAsk ((ByteArray.toList x3) == [119, 104, 121])
 (rAsk (true && (true && (decide ((0 : Int) < (((List.length (List.take ((Int.toNat (((List.length l) : Nat) : Int)) - 1) (List.drop 1 l))) : Nat) : Int)))))
 (rGet (List.take ((Int.toNat (((List.length l) : Nat) : Int)) - 1) (List.drop 1 l))[0]? fun x4 =>
 (rGet (List.head? (List.drop 0 x4)) fun x5 =>
 (rGet (fnS (fun (n : Int) => ((AV.dat (D.int IntKind.i64 n)), [])) (P137 [(AV.dat x5)] [])) fun x6 =>
 (rAsk (true && ((decide ((1 : Int) ≤ (((List.length (List.take ((Int.toNat (((List.length l) : Nat) : Int)) - 1) (List.drop 1 l))) : Nat) : Int))) && (decide ((((List.length (List.take ((Int.toNat (((List.length l) : Nat) : Int)) - 1) (List.drop 1 l))) : Nat) : Int) ≤ (((List.length (List.take ((Int.toNat (((List.length l) : Nat) : Int)) - 1) (List.drop 1 l))) : Nat) : Int)))))
 (rAsk ((decide ((if ((LK.full = LK.full) ∧ ((((List.length l) : Nat) : Int) < (((List.length l) : Nat) : Int))) then LK.any else LK.full) = LK.nil)) || true)
 (some ((Ex.goto 1), (St.mk (mkT 0 92 [(0, (AV.dat (D.list (if (((if ((LK.full = LK.full) ∧ ((((List.length l) : Nat) : Int) < (((List.length l) : Nat) : Int))) then LK.any else LK.full) = LK.full) ∧ ((((List.length (List.take ((Int.toNat (((List.length l) : Nat) : Int)) - 1) (List.drop 1 l))) : Nat) : Int) < (((List.length (List.take ((Int.toNat (((List.length l) : Nat) : Int)) - 1) (List.drop 1 l))) : Nat) : Int))) then LK.any else (if ((LK.full = LK.full) ∧ ((((List.length l) : Nat) : Int) < (((List.length l) : Nat) : Int))) then LK.any else LK.full)) 1 (List.take ((Int.toNat (((List.length (List.take ((Int.toNat (((List.length l) : Nat) : Int)) - 1) (List.drop 1 l))) : Nat) : Int)) - 1) (List.drop 1 (List.take ((Int.toNat (((List.length l) : Nat) : Int)) - 1) (List.drop 1 l))))))), (2, (AV.ptr (Ref.loc 0) 0)), (3, (AV.ptr (Ref.loc 1) 0)), (5, (AV.sh false 2 1 0 (List.length r)))]) (Mem.mk [(Option.some (Ent.obj [(AV.dat (D.int IntKind.i64 (0 : Int))), (AV.dat (D.int IntKind.i64 (0 : Int))), (AV.dat (D.int IntKind.i64 (0 : Int))), (AV.dat (D.str (ByteArray.mk (List.toArray [])))), (AV.dat (D.list LK.nil 0 ([] : Row)))])), (Option.some (Ent.obj [(AV.dat (D.int IntKind.i64 x6)), (AV.dat (D.int IntKind.i64 n)), (AV.dat (D.int IntKind.i64 m)), (AV.dat (D.str d)), (AV.dat (D.list LK.nil 0 ([] : Row)))])), (Option.some (Ent.row Mode.excl 1 r))] [] 0))))
 none
 )
 none
 )
 )
 )
 )
 none
 )
 (rGet (D.str? x2) fun x7 =>
 (rAsk ((ByteArray.toList x7) == [110])
 (rAsk (true && (true && (decide ((0 : Int) < (((List.length (List.take ((Int.toNat (((List.length l) : Nat) : Int)) - 1) (List.drop 1 l))) : Nat) : Int)))))
 (rGet (List.take ((Int.toNat (((List.length l) : Nat) : Int)) - 1) (List.drop 1 l))[0]? fun x8 =>
 (rGet (List.head? (List.drop 0 x8)) fun x9 =>
 (rGet (fnS (fun (n : Int) => ((AV.dat (D.int IntKind.i64 n)), [])) (P137 [(AV.dat x9)] [])) fun x10 =>
 (rAsk (true && ((decide ((1 : Int) ≤ (((List.length (List.take ((Int.toNat (((List.length l) : Nat) : Int)) - 1) (List.drop 1 l))) : Nat) : Int))) && (decide ((((List.length (List.take ((Int.toNat (((List.length l) : Nat) : Int)) - 1) (List.drop 1 l))) : Nat) : Int) ≤ (((List.length (List.take ((Int.toNat (((List.length l) : Nat) : Int)) - 1) (List.drop 1 l))) : Nat) : Int)))))
 (rAsk ((decide ((if ((LK.full = LK.full) ∧ ((((List.length l) : Nat) : Int) < (((List.length l) : Nat) : Int))) then LK.any else LK.full) = LK.nil)) || true)
 (some ((Ex.goto 1), (St.mk (mkT 0 92 [(0, (AV.dat (D.list (if (((if ((LK.full = LK.full) ∧ ((((List.length l) : Nat) : Int) < (((List.length l) : Nat) : Int))) then LK.any else LK.full) = LK.full) ∧ ((((List.length (List.take ((Int.toNat (((List.length l) : Nat) : Int)) - 1) (List.drop 1 l))) : Nat) : Int) < (((List.length (List.take ((Int.toNat (((List.length l) : Nat) : Int)) - 1) (List.drop 1 l))) : Nat) : Int))) then LK.any else (if ((LK.full = LK.full) ∧ ((((List.length l) : Nat) : Int) < (((List.length l) : Nat) : Int))) then LK.any else LK.full)) 1 (List.take ((Int.toNat (((List.length (List.take ((Int.toNat (((List.length l) : Nat) : Int)) - 1) (List.drop 1 l))) : Nat) : Int)) - 1) (List.drop 1 (List.take ((Int.toNat (((List.length l) : Nat) : Int)) - 1) (List.drop 1 l))))))), (2, (AV.ptr (Ref.loc 0) 0)), (3, (AV.ptr (Ref.loc 1) 0)), (5, (AV.sh false 2 1 0 (List.length r)))]) (Mem.mk [(Option.some (Ent.obj [(AV.dat (D.int IntKind.i64 (0 : Int))), (AV.dat (D.int IntKind.i64 (0 : Int))), (AV.dat (D.int IntKind.i64 (0 : Int))), (AV.dat (D.str (ByteArray.mk (List.toArray [])))), (AV.dat (D.list LK.nil 0 ([] : Row)))])), (Option.some (Ent.obj [(AV.dat (D.int IntKind.i64 why)), (AV.dat (D.int IntKind.i64 x10)), (AV.dat (D.int IntKind.i64 m)), (AV.dat (D.str d)), (AV.dat (D.list LK.nil 0 ([] : Row)))])), (Option.some (Ent.row Mode.excl 1 r))] [] 0))))
 none
 )
 none
 )
 )
 )
 )
 none
 )
 (rGet (D.str? x2) fun x11 =>
 (rAsk ((ByteArray.toList x11) == [109])
 (rAsk (true && (true && (decide ((0 : Int) < (((List.length (List.take ((Int.toNat (((List.length l) : Nat) : Int)) - 1) (List.drop 1 l))) : Nat) : Int)))))
 (rGet (List.take ((Int.toNat (((List.length l) : Nat) : Int)) - 1) (List.drop 1 l))[0]? fun x12 =>
 (rGet (List.head? (List.drop 0 x12)) fun x13 =>
 (rGet (fnS (fun (n : Int) => ((AV.dat (D.int IntKind.i64 n)), [])) (P137 [(AV.dat x13)] [])) fun x14 =>
 (rAsk (true && ((decide ((1 : Int) ≤ (((List.length (List.take ((Int.toNat (((List.length l) : Nat) : Int)) - 1) (List.drop 1 l))) : Nat) : Int))) && (decide ((((List.length (List.take ((Int.toNat (((List.length l) : Nat) : Int)) - 1) (List.drop 1 l))) : Nat) : Int) ≤ (((List.length (List.take ((Int.toNat (((List.length l) : Nat) : Int)) - 1) (List.drop 1 l))) : Nat) : Int)))))
 (rAsk ((decide ((if ((LK.full = LK.full) ∧ ((((List.length l) : Nat) : Int) < (((List.length l) : Nat) : Int))) then LK.any else LK.full) = LK.nil)) || true)
 (some ((Ex.goto 1), (St.mk (mkT 0 92 [(0, (AV.dat (D.list (if (((if ((LK.full = LK.full) ∧ ((((List.length l) : Nat) : Int) < (((List.length l) : Nat) : Int))) then LK.any else LK.full) = LK.full) ∧ ((((List.length (List.take ((Int.toNat (((List.length l) : Nat) : Int)) - 1) (List.drop 1 l))) : Nat) : Int) < (((List.length (List.take ((Int.toNat (((List.length l) : Nat) : Int)) - 1) (List.drop 1 l))) : Nat) : Int))) then LK.any else (if ((LK.full = LK.full) ∧ ((((List.length l) : Nat) : Int) < (((List.length l) : Nat) : Int))) then LK.any else LK.full)) 1 (List.take ((Int.toNat (((List.length (List.take ((Int.toNat (((List.length l) : Nat) : Int)) - 1) (List.drop 1 l))) : Nat) : Int)) - 1) (List.drop 1 (List.take ((Int.toNat (((List.length l) : Nat) : Int)) - 1) (List.drop 1 l))))))), (2, (AV.ptr (Ref.loc 0) 0)), (3, (AV.ptr (Ref.loc 1) 0)), (5, (AV.sh false 2 1 0 (List.length r)))]) (Mem.mk [(Option.some (Ent.obj [(AV.dat (D.int IntKind.i64 (0 : Int))), (AV.dat (D.int IntKind.i64 (0 : Int))), (AV.dat (D.int IntKind.i64 (0 : Int))), (AV.dat (D.str (ByteArray.mk (List.toArray [])))), (AV.dat (D.list LK.nil 0 ([] : Row)))])), (Option.some (Ent.obj [(AV.dat (D.int IntKind.i64 why)), (AV.dat (D.int IntKind.i64 n)), (AV.dat (D.int IntKind.i64 x14)), (AV.dat (D.str d)), (AV.dat (D.list LK.nil 0 ([] : Row)))])), (Option.some (Ent.row Mode.excl 1 r))] [] 0))))
 none
 )
 none
 )
 )
 )
 )
 none
 )
 (rGet (D.str? x2) fun x15 =>
 (rAsk ((ByteArray.toList x15) == [100, 97, 116, 97])
 (rAsk (Option.isSome (loS TT (TOrc.runs t120) (HSg 20) lp20d (outDn (Option.some (Ent.obj [(AV.dat (D.int IntKind.i64 why)), (AV.dat (D.int IntKind.i64 n)), (AV.dat (D.int IntKind.i64 m)), (AV.dat (D.str d)), (AV.dat (D.list LK.nil 0 ([] : Row)))]))) (St.mk (mkT 0 92 [(0, (AV.dat (D.list (if ((LK.full = LK.full) ∧ ((((List.length l) : Nat) : Int) < (((List.length l) : Nat) : Int))) then LK.any else LK.full) 1 (List.take ((Int.toNat (((List.length l) : Nat) : Int)) - 1) (List.drop 1 l))))), (2, (AV.ptr (Ref.loc 0) 0)), (3, (AV.ptr (Ref.loc 1) 0)), (5, (AV.sh false 2 1 0 (List.length r)))]) (Mem.mk [(Option.some (Ent.obj [(AV.dat (D.int IntKind.i64 (0 : Int))), (AV.dat (D.int IntKind.i64 (0 : Int))), (AV.dat (D.int IntKind.i64 (0 : Int))), (AV.dat (D.str (ByteArray.mk (List.toArray [])))), (AV.dat (D.list LK.nil 0 ([] : Row)))])), (Option.some (Ent.obj [(AV.dat (D.int IntKind.i64 why)), (AV.dat (D.int IntKind.i64 n)), (AV.dat (D.int IntKind.i64 m)), (AV.dat (D.str d)), (AV.dat (D.list LK.nil 0 ([] : Row)))])), (Option.some (Ent.row Mode.excl 1 r))] [] 0))))
 (rGet (loS TT (TOrc.runs t120) (HSg 20) lp20d (outDn (Option.some (Ent.obj [(AV.dat (D.int IntKind.i64 why)), (AV.dat (D.int IntKind.i64 n)), (AV.dat (D.int IntKind.i64 m)), (AV.dat (D.str d)), (AV.dat (D.list LK.nil 0 ([] : Row)))]))) (St.mk (mkT 0 92 [(0, (AV.dat (D.list (if ((LK.full = LK.full) ∧ ((((List.length l) : Nat) : Int) < (((List.length l) : Nat) : Int))) then LK.any else LK.full) 1 (List.take ((Int.toNat (((List.length l) : Nat) : Int)) - 1) (List.drop 1 l))))), (2, (AV.ptr (Ref.loc 0) 0)), (3, (AV.ptr (Ref.loc 1) 0)), (5, (AV.sh false 2 1 0 (List.length r)))]) (Mem.mk [(Option.some (Ent.obj [(AV.dat (D.int IntKind.i64 (0 : Int))), (AV.dat (D.int IntKind.i64 (0 : Int))), (AV.dat (D.int IntKind.i64 (0 : Int))), (AV.dat (D.str (ByteArray.mk (List.toArray [])))), (AV.dat (D.list LK.nil 0 ([] : Row)))])), (Option.some (Ent.obj [(AV.dat (D.int IntKind.i64 why)), (AV.dat (D.int IntKind.i64 n)), (AV.dat (D.int IntKind.i64 m)), (AV.dat (D.str d)), (AV.dat (D.list LK.nil 0 ([] : Row)))])), (Option.some (Ent.row Mode.excl 1 r))] [] 0))) fun x16 =>
 (some ((Ex.goto 1), (St.mk (mkT 0 92 [(0, (AV.dat (D.list LK.full 1 x16))), (2, (AV.ptr (Ref.loc 0) 0)), (3, (AV.ptr (Ref.loc 1) 0)), (5, (AV.dat (D.list LK.nil 0 ([] : Row))))]) (Mem.mk [(Option.some (Ent.obj [(AV.dat (D.int IntKind.i64 (0 : Int))), (AV.dat (D.int IntKind.i64 (0 : Int))), (AV.dat (D.int IntKind.i64 (0 : Int))), (AV.dat (D.str (ByteArray.mk (List.toArray [])))), (AV.dat (D.list LK.nil 0 ([] : Row)))])), (Option.some (Ent.obj [(AV.dat (D.int IntKind.i64 why)), (AV.dat (D.int IntKind.i64 n)), (AV.dat (D.int IntKind.i64 m)), (AV.dat (D.str d)), (AV.dat (D.list LK.nil 0 ([] : Row)))]))] [] 0))))
 )
 (rGet (loS TT (TOrc.runs t120) (HSg 20) lp20d (outDr (Option.some (Ent.obj [(AV.dat (D.int IntKind.i64 why)), (AV.dat (D.int IntKind.i64 n)), (AV.dat (D.int IntKind.i64 m)), (AV.dat (D.str d)), (AV.dat (D.list LK.nil 0 ([] : Row)))]))) (St.mk (mkT 0 92 [(0, (AV.dat (D.list (if ((LK.full = LK.full) ∧ ((((List.length l) : Nat) : Int) < (((List.length l) : Nat) : Int))) then LK.any else LK.full) 1 (List.take ((Int.toNat (((List.length l) : Nat) : Int)) - 1) (List.drop 1 l))))), (2, (AV.ptr (Ref.loc 0) 0)), (3, (AV.ptr (Ref.loc 1) 0)), (5, (AV.sh false 2 1 0 (List.length r)))]) (Mem.mk [(Option.some (Ent.obj [(AV.dat (D.int IntKind.i64 (0 : Int))), (AV.dat (D.int IntKind.i64 (0 : Int))), (AV.dat (D.int IntKind.i64 (0 : Int))), (AV.dat (D.str (ByteArray.mk (List.toArray [])))), (AV.dat (D.list LK.nil 0 ([] : Row)))])), (Option.some (Ent.obj [(AV.dat (D.int IntKind.i64 why)), (AV.dat (D.int IntKind.i64 n)), (AV.dat (D.int IntKind.i64 m)), (AV.dat (D.str d)), (AV.dat (D.list LK.nil 0 ([] : Row)))])), (Option.some (Ent.row Mode.excl 1 r))] [] 0))) fun x17 =>
 (some ((Ex.goto 1), (St.mk (mkT 0 92 [(0, (AV.dat (D.list LK.full 1 x17.2))), (2, (AV.ptr (Ref.loc 0) 0)), (3, (AV.ptr (Ref.loc 1) 0)), (5, (AV.sh false 2 1 0 (List.length x17.1)))]) (Mem.mk [(Option.some (Ent.obj [(AV.dat (D.int IntKind.i64 (0 : Int))), (AV.dat (D.int IntKind.i64 (0 : Int))), (AV.dat (D.int IntKind.i64 (0 : Int))), (AV.dat (D.str (ByteArray.mk (List.toArray [])))), (AV.dat (D.list LK.nil 0 ([] : Row)))])), (Option.some (Ent.obj [(AV.dat (D.int IntKind.i64 why)), (AV.dat (D.int IntKind.i64 n)), (AV.dat (D.int IntKind.i64 m)), (AV.dat (D.str d)), (AV.dat (D.list LK.nil 0 ([] : Row)))])), (Option.some (Ent.row Mode.excl 1 x17.1))] [] 0))))
 )
 )
 (rGet (D.str? x2) fun x18 =>
 (rAsk ((ByteArray.toList x18) == [108, 105, 115, 116])
 (rGet (loS TT (TOrc.runs t120) (HSg 20) lp20l (outL (AV.sh false 2 1 0 (List.length r)) (Option.some (Ent.obj [(AV.dat (D.int IntKind.i64 why)), (AV.dat (D.int IntKind.i64 n)), (AV.dat (D.int IntKind.i64 m)), (AV.dat (D.str d)), (AV.dat (D.list LK.nil 0 ([] : Row)))])) [(Option.some (Ent.row Mode.excl 1 r))]) (St.mk (mkT 0 92 [(2, (AV.ptr (Ref.loc 0) 0)), (3, (AV.ptr (Ref.loc 1) 0)), (5, (AV.sh false 2 1 0 (List.length r))), (67, (AV.dat (D.list (if ((LK.full = LK.full) ∧ ((((List.length l) : Nat) : Int) < (((List.length l) : Nat) : Int))) then LK.any else LK.full) 1 (List.take ((Int.toNat (((List.length l) : Nat) : Int)) - 1) (List.drop 1 l))))), (68, (AV.dat (D.int IntKind.i64 (((List.length (List.take ((Int.toNat (((List.length l) : Nat) : Int)) - 1) (List.drop 1 l))) : Nat) : Int)))), (69, (AV.dat (D.int IntKind.i64 (0 : Int))))]) (Mem.mk [(Option.some (Ent.obj [(AV.dat (D.int IntKind.i64 (0 : Int))), (AV.dat (D.int IntKind.i64 (0 : Int))), (AV.dat (D.int IntKind.i64 (0 : Int))), (AV.dat (D.str (ByteArray.mk (List.toArray [])))), (AV.dat (D.list LK.nil 0 ([] : Row)))])), (Option.some (Ent.obj [(AV.dat (D.int IntKind.i64 why)), (AV.dat (D.int IntKind.i64 n)), (AV.dat (D.int IntKind.i64 m)), (AV.dat (D.str d)), (AV.dat (D.list LK.nil 0 ([] : Row)))])), (Option.some (Ent.row Mode.excl 1 r))] [] 0))) fun x19 =>
 (some ((Ex.goto 0), (St.mk (mkT 0 92 [(2, (AV.ptr (Ref.loc 0) 0)), (3, (AV.ptr (Ref.loc 1) 0)), (5, (AV.sh false 2 1 0 (List.length r)))]) (Mem.mk [(Option.some (Ent.obj [(AV.dat (D.int IntKind.i64 (0 : Int))), (AV.dat (D.int IntKind.i64 (0 : Int))), (AV.dat (D.int IntKind.i64 (0 : Int))), (AV.dat (D.str (ByteArray.mk (List.toArray [])))), (AV.dat (D.list LK.nil 0 ([] : Row)))])), (Option.some (Ent.obj [(AV.dat (D.int IntKind.i64 why)), (AV.dat (D.int IntKind.i64 n)), (AV.dat (D.int IntKind.i64 m)), (AV.dat (D.str d)), (AV.sh false 3 1 0 (List.length x19))])), (Option.some (Ent.row Mode.excl 1 r)), (Option.some (Ent.row Mode.excl 1 x19))] [] 0))))
 )
 (some ((Ex.goto 0), (St.mk (mkT 0 92 [(2, (AV.ptr (Ref.loc 0) 0)), (3, (AV.ptr (Ref.loc 1) 0)), (5, (AV.sh false 2 1 0 (List.length r)))]) (Mem.mk [(Option.some (Ent.obj [(AV.dat (D.int IntKind.i64 (0 : Int))), (AV.dat (D.int IntKind.i64 (0 : Int))), (AV.dat (D.int IntKind.i64 (0 : Int))), (AV.dat (D.str (ByteArray.mk (List.toArray [])))), (AV.dat (D.list LK.nil 0 ([] : Row)))])), (Option.some (Ent.obj [(AV.dat (D.int IntKind.i64 why)), (AV.dat (D.int IntKind.i64 n)), (AV.dat (D.int IntKind.i64 m)), (AV.dat (D.str d)), (AV.dat (D.list LK.nil 0 ([] : Row)))])), (Option.some (Ent.row Mode.excl 1 r))] [] 0))))
 )
 )
 )
 )
 )
 )
 )
 )
 )
 )
 none
 )
 )
 )
 none
 )
 )
  := by kernel_rfl
attribute [local irreducible] fnS loS tround P137 P138
theorem outDn_inj {o : Option Ent} : ∀ x y, outDn o x = outDn o y → x = y := by
  intro x y h
  have h2 : (AV.dat (.list .full 1 x)) = AV.dat (.list .full 1 y) := congrArg (fun e : Ex × St => e.2.tmps.getD 0 .dead) h
  simpa using h2
theorem outDr_inj {o : Option Ent} : ∀ x y, outDr o x = outDr o y → x = y := by
  rintro ⟨a, b⟩ ⟨c, e⟩ h
  have h2 : (AV.dat (.list .full 1 b)) = AV.dat (.list .full 1 e) := congrArg (fun e : Ex × St => e.2.tmps.getD 0 .dead) h
  have h3 : some (some (Ent.row .excl 1 a)) = some (some (Ent.row .excl 1 c)) := congrArg (fun e : Ex × St => e.2.mem.L[2]?) h
  simp at h2 h3
  rw [h2, h3]
theorem outD_no {o : Option Ent} {y : Row × Row} : ∀ x, outDn o x ≠ outDr o y := fun x h => by
  have h3 : (none : Option (Option Ent)) = some (some (Ent.row .excl 1 y.1)) := congrArg (fun e : Ex × St => e.2.mem.L[2]?) h
  cases h3
theorem outLn_inj {o : Option Ent} {t : AV} : ∀ x y, outL t o [] x = outL t o [] y → x = y := by
  intro x y h
  have h3 : some (some (Ent.row .excl 1 x)) = some (some (Ent.row .excl 1 y)) := congrArg (fun e : Ex × St => e.2.mem.L[2]?) h
  simpa using h3
theorem outLr_inj {o e0 : Option Ent} {t : AV} : ∀ x y, outL t o [e0] x = outL t o [e0] y → x = y := by
  intro x y h
  have h3 : some (some (Ent.row .excl 1 x)) = some (some (Ent.row .excl 1 y)) := congrArg (fun e : Ex × St => e.2.mem.L[3]?) h
  simpa using h3
theorem startLn {why n m : Int} {d : ByteArray} {w : List UInt8} {ws : List (List UInt8)} (h : ws.length + 1 ≤ 2000) (hw : ∀ v ∈ w :: ws, v.length ≤ 3000) :
    LoopTo TT t120.runs (HSg 20) lp20l (invL false false why n m d [] [] (sRow (w :: ws)) 0) (outL (.dat (.list .nil 0 [])) (obX why n m d) [] (encI ((w :: ws).map numP))) := by
  have hlen : (sRow (w :: ws)).length = ws.length + 1 := by rw [sRow_length, List.length_cons]
  have ih := loopLnr (why := why) (n := n) (m := m) (d := d) ws [w] [numP w] (by simp only [List.length_append, List.length_cons, List.length_nil]; omega) (by simp only [List.length_cons, List.length_nil]; omega) (fun v hv => hw v (by simp [hv]))
  have step : (tround TT t120 noLo (HSg 20) lp20l (invL false false why n m d [] [] (sRow (w :: ws)) 0)).run = some (.norm, invL false true why n m d [] (encI [numP w]) (sRow ([w] ++ ws)) ((([w] : List (List UInt8)).length : Nat) : Int)) := by
    refine goLnn ?_
    rw [rkLnn_eq]
    exact aT (by rw [decide_eq_true_eq]; omega) (aT (by simp only [Bool.true_and, Bool.and_eq_true, decide_eq_true_eq]; omega) (gStep rfl (gStep rfl (gStep (fnS_eq (out := oI []) oI_inj (p137 (hw w (by simp)) [])) rfl))))
  exact LoopTo.more (orc := t120) (lo := noLo) (fun _ _ _ _ h => h) (LoOk2.no _) step ih
theorem startLr {why n m : Int} {d : ByteArray} {r : Row} {w : List UInt8} {ws : List (List UInt8)} (h : ws.length + 1 ≤ 2000) (hw : ∀ v ∈ w :: ws, v.length ≤ 3000) :
    LoopTo TT t120.runs (HSg 20) lp20l (invL true false why n m d r [] (sRow (w :: ws)) 0) (outL (.sh false 2 1 0 r.length) (obX why n m d) [some (.row .excl 1 r)] (encI ((w :: ws).map numP))) := by
  have hlen : (sRow (w :: ws)).length = ws.length + 1 := by rw [sRow_length, List.length_cons]
  have ih := loopLrr (why := why) (n := n) (m := m) (d := d) (r := r) ws [w] [numP w] (by simp only [List.length_append, List.length_cons, List.length_nil]; omega) (by simp only [List.length_cons, List.length_nil]; omega) (fun v hv => hw v (by simp [hv]))
  have step : (tround TT t120 noLo (HSg 20) lp20l (invL true false why n m d r [] (sRow (w :: ws)) 0)).run = some (.norm, invL true true why n m d r (encI [numP w]) (sRow ([w] ++ ws)) ((([w] : List (List UInt8)).length : Nat) : Int)) := by
    refine goLrn ?_
    rw [rkLrn_eq]
    exact aT (by rw [decide_eq_true_eq]; omega) (aT (by simp only [Bool.true_and, Bool.and_eq_true, decide_eq_true_eq]; omega) (gStep rfl (gStep rfl (gStep (fnS_eq (out := oI []) oI_inj (p137 (hw w (by simp)) [])) rfl))))
  exact LoopTo.more (orc := t120) (lo := noLo) (fun _ _ _ _ h => h) (LoOk2.no _) step ih
def stW (x : An) (dt ws : List (List UInt8)) : St := match dt with
  | [] => st1 false x.why x.n x.m (ba x.data) [] (sRow ws)
  | w :: W => st1 true x.why x.n x.m (ba x.data) (sRow (w :: W)) (sRow ws)
def stE (x : An) (dt : List (List UInt8)) : St := match dt with
  | [] => match x.list with
    | [] => st0 false false x.why x.n x.m (ba x.data) [] []
    | v :: l => st0 false true x.why x.n x.m (ba x.data) [] (encI (v :: l))
  | w :: W => match x.list with
    | [] => st0 true false x.why x.n x.m (ba x.data) (sRow (w :: W)) []
    | v :: l => st0 true true x.why x.n x.m (ba x.data) (sRow (w :: W)) (encI (v :: l))
def nextG (x : An) (dt ws : List (List UInt8)) : Nat × St := match ws with
  | name :: v :: rest =>
    if name = wWhy then (1, stW { x with why := numP v } dt rest)
    else if name = wN then (1, stW { x with n := numP v } dt rest)
    else if name = wM then (1, stW { x with m := numP v } dt rest)
    else if name = wData then (1, stW x (dt ++ (v :: rest).takeWhile pL) ((v :: rest).dropWhile pL))
    else if name = wList then (0, stE { x with list := (v :: rest).map numP } dt)
    else (0, stE x dt)
  | _ => (0, stE x dt)
theorem jump_n {x : An} {ws : List (List UInt8)} (hx : x.list = []) (hl : ws.length ≤ 2000) (hw : ∀ w ∈ ws, w.length ≤ 3000) :
    (tJ TT t120 lo20 ro20 (HSg 20) 1 sc20 (stW x [] ws)).run = some (.goto (nextG x [] ws).1, (nextG x [] ws).2) := by
  have key : ∀ o, (g1n x.why x.n x.m (ba x.data) (sRow ws)).ev = o → (tJ TT t120 lo20 ro20 (HSg 20) 1 sc20 (stW x [] ws)).run = o := fun o h => by
    rw [Tr.ev_run] at h
    exact h
  have hE : stE x [] = st0 false false x.why x.n x.m (ba x.data) [] [] := by unfold stE; rw [hx]
  refine key _ ?_
  clear key
  rcases ws with _ | ⟨name, _ | ⟨v, rest⟩⟩
  · rw [g1n_eq]
    show _ = some (Ex.goto 0, stE x [])
    rw [hE]
    exact aT rfl rfl
  · rw [g1n_eq]
    show _ = some (Ex.goto 0, stE x [])
    rw [hE]
    exact aT rfl rfl
  · have hv := hw v (by simp)
    have e37 := fnS_eq (out := oI []) oI_inj (p137 hv [])
    simp only [List.length_cons] at hl
    have hlen : (sRow (name :: v :: rest)).length = rest.length + 2 := by rw [sRow_length, List.length_cons, List.length_cons]
    have hlen2 : (sRow (v :: rest)).length = rest.length + 1 := by rw [sRow_length, List.length_cons]
    have a0 : decide ((((List.length (sRow (name :: v :: rest))) : Nat) : Int) < 2) = false := by rw [decide_eq_false_iff_not]; omega
    have a1 : (true && (true && (decide ((0 : Int) < (((List.length (sRow (name :: v :: rest))) : Nat) : Int))))) = true := by simp only [Bool.true_and, decide_eq_true_eq]; omega
    have a2 : (true && ((decide ((1 : Int) ≤ (((List.length (sRow (name :: v :: rest))) : Nat) : Int))) && (decide ((((List.length (sRow (name :: v :: rest))) : Nat) : Int) ≤ (((List.length (sRow (name :: v :: rest))) : Nat) : Int))))) = true := by
      simp only [Bool.true_and, Bool.and_eq_true, decide_eq_true_eq]; omega
    have b1 : (true && (true && (decide ((0 : Int) < (((List.length (sRow (v :: rest))) : Nat) : Int))))) = true := by simp only [Bool.true_and, decide_eq_true_eq]; omega
    have b2 : (true && ((decide ((1 : Int) ≤ (((List.length (sRow (v :: rest))) : Nat) : Int))) && (decide ((((List.length (sRow (v :: rest))) : Nat) : Int) ≤ (((List.length (sRow (v :: rest))) : Nat) : Int))))) = true := by
      simp only [Bool.true_and, Bool.and_eq_true, decide_eq_true_eq]; omega
    rw [g1n_eq, tl_row, tl_row, kFull, kFull]
    unfold nextG
    simp only
    refine aF a0 (aT a1 (gStep rfl (gStep rfl (aT a2 (gStep (x := ba name) rfl ?_)))))
    by_cases h1 : name = wWhy
    · rw [if_pos h1]
      exact aT ((eqw name wWhy).trans (decide_eq_true h1)) (aT b1 (gStep rfl (gStep rfl (gStep e37 (aT b2 (aT rfl rfl))))))
    refine aF ((eqw name wWhy).trans (decide_eq_false h1)) (gStep (x := ba name) rfl ?_)
    rw [if_neg h1]
    by_cases h2 : name = wN
    · rw [if_pos h2]
      exact aT ((eqw name wN).trans (decide_eq_true h2)) (aT b1 (gStep rfl (gStep rfl (gStep e37 (aT b2 (aT rfl rfl))))))
    refine aF ((eqw name wN).trans (decide_eq_false h2)) (gStep (x := ba name) rfl ?_)
    rw [if_neg h2]
    by_cases h3 : name = wM
    · rw [if_pos h3]
      exact aT ((eqw name wM).trans (decide_eq_true h3)) (aT b1 (gStep rfl (gStep rfl (gStep e37 (aT b2 (aT rfl rfl))))))
    refine aF ((eqw name wM).trans (decide_eq_false h3)) (gStep (x := ba name) rfl ?_)
    rw [if_neg h3]
    by_cases h4 : name = wData
    · rw [if_pos h4]
      refine aT ((eqw name wData).trans (decide_eq_true h4)) ?_
      have hls := loopDn (why := x.why) (n := x.n) (m := x.m) (d := ba x.data) (ws := v :: rest) (by rw [List.length_cons]; omega)
      rw [List.nil_append]
      by_cases ht : (v :: rest).takeWhile pL = []
      · rw [if_pos ht] at hls
        have hd : (v :: rest).dropWhile pL = v :: rest := by
          have := List.takeWhile_append_dropWhile (p := pL) (l := v :: rest)
          rw [ht, List.nil_append] at this
          exact this
        rw [ht, hd]
        exact aT (loS_yes (o1 := outDn (obX x.why x.n x.m (ba x.data))) outDn_inj hls) (gStep (loS_eq outDn_inj hls) rfl)
      · rw [if_neg ht] at hls
        obtain ⟨p, P, hp⟩ : ∃ p P, (v :: rest).takeWhile pL = p :: P := by
          cases hq : (v :: rest).takeWhile pL with
          | nil => exact absurd hq ht
          | cons p P => exact ⟨p, P, rfl⟩
        rw [hp] at hls ⊢
        exact aF (loS_no (o1 := outDn (obX x.why x.n x.m (ba x.data))) hls outD_no) (gStep (loS_eq outDr_inj hls) rfl)
    refine aF ((eqw name wData).trans (decide_eq_false h4)) (gStep (x := ba name) rfl ?_)
    rw [if_neg h4]
    by_cases h5 : name = wList
    · rw [if_pos h5]
      have hls := startLn (why := x.why) (n := x.n) (m := x.m) (d := ba x.data) (w := v) (ws := rest) (by omega) (fun u hu => hw u (by simp at hu ⊢; exact .inr hu))
      exact aT ((eqw name wList).trans (decide_eq_true h5)) (gStep (loS_eq outLn_inj hls) rfl)
    · rw [if_neg h5, hE]
      exact aF ((eqw name wList).trans (decide_eq_false h5)) rfl
theorem jump_r {x : An} {u : List UInt8} {W : List (List UInt8)} {ws : List (List UInt8)} (hx : x.list = []) (hl : W.length + 1 + ws.length ≤ 2000) (hw : ∀ w ∈ ws, w.length ≤ 3000) :
    (tJ TT t120 lo20 ro20 (HSg 20) 1 sc20 (stW x (u :: W) ws)).run = some (.goto (nextG x (u :: W) ws).1, (nextG x (u :: W) ws).2) := by
  have key : ∀ o, (g1r x.why x.n x.m (ba x.data) (sRow (u :: W)) (sRow ws)).ev = o → (tJ TT t120 lo20 ro20 (HSg 20) 1 sc20 (stW x (u :: W) ws)).run = o := fun o h => by
    rw [Tr.ev_run] at h
    exact h
  have hE : stE x (u :: W) = st0 true false x.why x.n x.m (ba x.data) (sRow (u :: W)) [] := by unfold stE; rw [hx]
  refine key _ ?_
  clear key
  rcases ws with _ | ⟨name, _ | ⟨v, rest⟩⟩
  · rw [g1r_eq]
    show _ = some (Ex.goto 0, stE x (u :: W))
    rw [hE]
    exact aT rfl rfl
  · rw [g1r_eq]
    show _ = some (Ex.goto 0, stE x (u :: W))
    rw [hE]
    exact aT rfl rfl
  · have hv := hw v (by simp)
    have e37 := fnS_eq (out := oI []) oI_inj (p137 hv [])
    simp only [List.length_cons] at hl
    have hlen : (sRow (name :: v :: rest)).length = rest.length + 2 := by rw [sRow_length, List.length_cons, List.length_cons]
    have hlen2 : (sRow (v :: rest)).length = rest.length + 1 := by rw [sRow_length, List.length_cons]
    have a0 : decide ((((List.length (sRow (name :: v :: rest))) : Nat) : Int) < 2) = false := by rw [decide_eq_false_iff_not]; omega
    have a1 : (true && (true && (decide ((0 : Int) < (((List.length (sRow (name :: v :: rest))) : Nat) : Int))))) = true := by simp only [Bool.true_and, decide_eq_true_eq]; omega
    have a2 : (true && ((decide ((1 : Int) ≤ (((List.length (sRow (name :: v :: rest))) : Nat) : Int))) && (decide ((((List.length (sRow (name :: v :: rest))) : Nat) : Int) ≤ (((List.length (sRow (name :: v :: rest))) : Nat) : Int))))) = true := by
      simp only [Bool.true_and, Bool.and_eq_true, decide_eq_true_eq]; omega
    have b1 : (true && (true && (decide ((0 : Int) < (((List.length (sRow (v :: rest))) : Nat) : Int))))) = true := by simp only [Bool.true_and, decide_eq_true_eq]; omega
    have b2 : (true && ((decide ((1 : Int) ≤ (((List.length (sRow (v :: rest))) : Nat) : Int))) && (decide ((((List.length (sRow (v :: rest))) : Nat) : Int) ≤ (((List.length (sRow (v :: rest))) : Nat) : Int))))) = true := by
      simp only [Bool.true_and, Bool.and_eq_true, decide_eq_true_eq]; omega
    rw [g1r_eq, tl_row, tl_row, kFull, kFull]
    unfold nextG
    simp only
    refine aF a0 (aT a1 (gStep rfl (gStep rfl (aT a2 (gStep (x := ba name) rfl ?_)))))
    by_cases h1 : name = wWhy
    · rw [if_pos h1]
      exact aT ((eqw name wWhy).trans (decide_eq_true h1)) (aT b1 (gStep rfl (gStep rfl (gStep e37 (aT b2 (aT rfl rfl))))))
    refine aF ((eqw name wWhy).trans (decide_eq_false h1)) (gStep (x := ba name) rfl ?_)
    rw [if_neg h1]
    by_cases h2 : name = wN
    · rw [if_pos h2]
      exact aT ((eqw name wN).trans (decide_eq_true h2)) (aT b1 (gStep rfl (gStep rfl (gStep e37 (aT b2 (aT rfl rfl))))))
    refine aF ((eqw name wN).trans (decide_eq_false h2)) (gStep (x := ba name) rfl ?_)
    rw [if_neg h2]
    by_cases h3 : name = wM
    · rw [if_pos h3]
      exact aT ((eqw name wM).trans (decide_eq_true h3)) (aT b1 (gStep rfl (gStep rfl (gStep e37 (aT b2 (aT rfl rfl))))))
    refine aF ((eqw name wM).trans (decide_eq_false h3)) (gStep (x := ba name) rfl ?_)
    rw [if_neg h3]
    by_cases h4 : name = wData
    · rw [if_pos h4]
      refine aT ((eqw name wData).trans (decide_eq_true h4)) ?_
      have hls := loopDr (why := x.why) (n := x.n) (m := x.m) (d := ba x.data) (v :: rest) (u :: W) (by simp only [List.length_cons]; omega)
      exact aF (loS_no (o1 := outDn (obX x.why x.n x.m (ba x.data))) hls outD_no) (gStep (loS_eq outDr_inj hls) rfl)
    refine aF ((eqw name wData).trans (decide_eq_false h4)) (gStep (x := ba name) rfl ?_)
    rw [if_neg h4]
    by_cases h5 : name = wList
    · rw [if_pos h5]
      have hls := startLr (why := x.why) (n := x.n) (m := x.m) (d := ba x.data) (r := sRow (u :: W)) (w := v) (ws := rest) (by omega) (fun u hu => hw u (by simp at hu ⊢; exact .inr hu))
      exact aT ((eqw name wList).trans (decide_eq_true h5)) (gStep (loS_eq outLr_inj hls) rfl)
    · rw [if_neg h5, hE]
      exact aF ((eqw name wList).trans (decide_eq_false h5)) rfl
end Go.Eng
end

/- Answers as lines: guess is guessP. -/
section
namespace Go.Eng
open Go
set_option maxRecDepth 100000
set_option linter.unusedSimpArgs false

theorem eGnn_eq (why n m : Int) (d : ByteArray) : (eGnn why n m d).ev =
 (rGet (fnS (fun (zs : ByteArray) => ((AV.dat (D.str zs)), [])) (S16n [(AV.dat (D.list LK.nil 0 ([] : Row))), (AV.dat (D.str (ByteArray.mk (List.toArray [32]))))] [])) fun x1 =>
 (rGet (fnS (fun (p : ByteArray × Int) => ((AV.tup [(AV.dat (D.str p.1)), (AV.dat (D.int IntKind.i64 p.2))]), [])) (P138 [(AV.dat (D.str x1))] [])) fun x2 =>
 (rAsk (x2.2 == (0 : Int))
 (some ((AV.agg [(AV.dat (D.int IntKind.i64 why)), (AV.dat (D.int IntKind.i64 n)), (AV.dat (D.int IntKind.i64 m)), (AV.dat (D.str x2.1)), (AV.dat (D.list LK.nil 0 ([] : Row)))]), []))
 (some ((AV.agg [(AV.dat (D.int IntKind.i64 why)), (AV.dat (D.int IntKind.i64 n)), (AV.dat (D.int IntKind.i64 m)), (AV.dat (D.str d)), (AV.dat (D.list LK.nil 0 ([] : Row)))]), []))
 )
 )
 )
  := by kernel_rfl
theorem eGnr_eq (why n m : Int) (d : ByteArray) (q : Row) : (eGnr why n m d q).ev =
 (rGet (fnS (fun (zs : ByteArray) => ((AV.dat (D.str zs)), [])) (S16n [(AV.dat (D.list LK.nil 0 ([] : Row))), (AV.dat (D.str (ByteArray.mk (List.toArray [32]))))] [])) fun x1 =>
 (rGet (fnS (fun (p : ByteArray × Int) => ((AV.tup [(AV.dat (D.str p.1)), (AV.dat (D.int IntKind.i64 p.2))]), [])) (P138 [(AV.dat (D.str x1))] [])) fun x2 =>
 (rAsk (x2.2 == (0 : Int))
 (some ((AV.agg [(AV.dat (D.int IntKind.i64 why)), (AV.dat (D.int IntKind.i64 n)), (AV.dat (D.int IntKind.i64 m)), (AV.dat (D.str x2.1)), (AV.dat (D.list LK.any 1 (List.take (List.length q) (List.drop 0 q))))]), []))
 (some ((AV.agg [(AV.dat (D.int IntKind.i64 why)), (AV.dat (D.int IntKind.i64 n)), (AV.dat (D.int IntKind.i64 m)), (AV.dat (D.str d)), (AV.dat (D.list LK.any 1 (List.take (List.length q) (List.drop 0 q))))]), []))
 )
 )
 )
  := by kernel_rfl
theorem eGrn_eq (why n m : Int) (d : ByteArray) (r : Row) : (eGrn why n m d r).ev =
 (rGet (fnS (fun (zs : ByteArray) => ((AV.dat (D.str zs)), [])) (S16n [(AV.dat (D.list LK.any 1 (List.take (List.length r) (List.drop 0 r)))), (AV.dat (D.str (ByteArray.mk (List.toArray [32]))))] [])) fun x1 =>
 (rGet (fnS (fun (p : ByteArray × Int) => ((AV.tup [(AV.dat (D.str p.1)), (AV.dat (D.int IntKind.i64 p.2))]), [])) (P138 [(AV.dat (D.str x1))] [])) fun x2 =>
 (rAsk (x2.2 == (0 : Int))
 (some ((AV.agg [(AV.dat (D.int IntKind.i64 why)), (AV.dat (D.int IntKind.i64 n)), (AV.dat (D.int IntKind.i64 m)), (AV.dat (D.str x2.1)), (AV.dat (D.list LK.nil 0 ([] : Row)))]), []))
 (some ((AV.agg [(AV.dat (D.int IntKind.i64 why)), (AV.dat (D.int IntKind.i64 n)), (AV.dat (D.int IntKind.i64 m)), (AV.dat (D.str d)), (AV.dat (D.list LK.nil 0 ([] : Row)))]), []))
 )
 )
 )
  := by kernel_rfl
theorem eGrr_eq (why n m : Int) (d : ByteArray) (r q : Row) : (eGrr why n m d r q).ev =
 (rGet (fnS (fun (zs : ByteArray) => ((AV.dat (D.str zs)), [])) (S16n [(AV.dat (D.list LK.any 1 (List.take (List.length r) (List.drop 0 r)))), (AV.dat (D.str (ByteArray.mk (List.toArray [32]))))] [])) fun x1 =>
 (rGet (fnS (fun (p : ByteArray × Int) => ((AV.tup [(AV.dat (D.str p.1)), (AV.dat (D.int IntKind.i64 p.2))]), [])) (P138 [(AV.dat (D.str x1))] [])) fun x2 =>
 (rAsk (x2.2 == (0 : Int))
 (some ((AV.agg [(AV.dat (D.int IntKind.i64 why)), (AV.dat (D.int IntKind.i64 n)), (AV.dat (D.int IntKind.i64 m)), (AV.dat (D.str x2.1)), (AV.dat (D.list LK.any 1 (List.take (List.length q) (List.drop 0 q))))]), []))
 (some ((AV.agg [(AV.dat (D.int IntKind.i64 why)), (AV.dat (D.int IntKind.i64 n)), (AV.dat (D.int IntKind.i64 m)), (AV.dat (D.str d)), (AV.dat (D.list LK.any 1 (List.take (List.length q) (List.drop 0 q))))]), []))
 )
 )
 )
  := by kernel_rfl
theorem gB_ev (l : Row) : (gB l).ev = (g1n 0 0 0 ⟨#[]⟩ l).ev := by kernel_rfl
theorem tid1 (x : An) (dt ws : List (List UInt8)) : tidyJ (HSg 20) 1 (stW x dt ws) = stW x dt ws := by
  cases dt with
  | nil => kernel_rfl
  | cons u W => kernel_rfl
theorem tid0 (x : An) (dt : List (List UInt8)) : tidyJ (HSg 20) 0 (stE x dt) = stE x dt := by
  unfold stE
  cases dt with
  | nil =>
    cases x.list with
    | nil => kernel_rfl
    | cons v l => kernel_rfl
  | cons u W =>
    cases x.list with
    | nil => kernel_rfl
    | cons v l => kernel_rfl
theorem lo20_ok : LoOk2 TT t120.runs (HSg 20) lo20 sc20 := by
  refine LoOk2.of sc20 fun b hb st r h => ?_
  have hl : loops sc20 = [lp20d, lp20l] := by kernel_rfl
  rw [hl] at hb
  rcases List.mem_cons.1 hb with rfl | hb
  · rw [show firstRegion lp20d = 18 from by kernel_rfl] at h
    exact tlo2_ok h
  · obtain rfl := List.mem_singleton.1 hb
    rw [show firstRegion lp20l = 23 from by kernel_rfl] at h
    exact tlo_ok h
def szW (L : List (List UInt8)) : Nat := (L.map fun w => w.length + 1).sum
theorem szW_app (A B : List (List UInt8)) : szW (A ++ B) = szW A + szW B := by simp [szW]
theorem szW_cons (w : List UInt8) (L : List (List UInt8)) : szW (w :: L) = w.length + 1 + szW L := by simp [szW]
theorem szW_len : ∀ L : List (List UInt8), L.length ≤ szW L
  | [] => Nat.zero_le _
  | w :: L => by
    have := szW_len L
    rw [szW_cons, List.length_cons]; omega
theorem szW_mem : ∀ (L : List (List UInt8)), ∀ w ∈ L, w.length ≤ szW L
  | [], w, h => by cases h
  | v :: L, w, h => by
    rw [szW_cons]
    rcases List.mem_cons.1 h with rfl | h
    · omega
    · have := szW_mem L w h
      omega
theorem J_sz : ∀ L : List (List UInt8), (J L).length ≤ szW L
  | [] => by simp [J, Go.Lib.join]
  | [w] => by rw [J_one, szW_cons]; omega
  | w :: v :: L => by
    have := J_sz (v :: L)
    rw [J_cons, szW_cons, List.length_append, List.length_cons]
    omega
theorem jump {x : An} {dt ws : List (List UInt8)} (hx : x.list = []) (h : szW ws + szW dt ≤ 2000) :
    (tJ TT t120 lo20 ro20 (HSg 20) 1 sc20 (stW x dt ws)).run = some (.goto (nextG x dt ws).1, (nextG x dt ws).2) := by
  have h1 := szW_len ws
  have h2 := szW_len dt
  have h3 := szW_mem ws
  cases dt with
  | nil => exact jump_n hx (by omega) (fun w hw => by have := h3 w hw; omega)
  | cons u W =>
    rw [List.length_cons] at h2
    exact jump_r hx (by omega) (fun w hw => by have := h3 w hw; omega)
abbrev JT (l : Nat) (s : St) (r : Ex × St) : Prop := JumpTo TT t120.runs (HSg 20) sc20 l s r
theorem guess_next : ∀ (f : Nat) (ws : List (List UInt8)) (x : An) (dt : List (List UInt8)), x.list = [] → x.data = [] → ws.length ≤ f → szW ws + szW dt ≤ 2000 →
    ∃ y dt', guessP f ws x dt = endP y dt' ∧ y.data = [] ∧ szW dt' ≤ 2000 ∧ y.list.length ≤ 2000 ∧ ∀ r, JT 0 (stE y dt') r → JT (nextG x dt ws).1 (nextG x dt ws).2 r := by
  intro f
  induction f with
  | zero =>
    intro ws x dt hx hd hf hs
    obtain rfl : ws = [] := List.length_eq_zero_iff.1 (Nat.le_zero.1 hf)
    exact ⟨x, dt, rfl, hd, by omega, by rw [hx]; simp, fun r h => h⟩
  | succ f ih =>
    intro ws x dt hx hd hf hs
    have more : ∀ (x2 : An) (dt2 ws2 : List (List UInt8)), x2.list = [] → x2.data = [] → ws2.length ≤ f → szW ws2 + szW dt2 ≤ 2000 →
        ∃ y dt', guessP f ws2 x2 dt2 = endP y dt' ∧ y.data = [] ∧ szW dt' ≤ 2000 ∧ y.list.length ≤ 2000 ∧ ∀ r, JT 0 (stE y dt') r → JT 1 (stW x2 dt2 ws2) r := by
      intro x2 dt2 ws2 h1 h2 h3 h4
      obtain ⟨y, dt', e1, e2, e3, e4, e5⟩ := ih ws2 x2 dt2 h1 h2 h3 h4
      refine ⟨y, dt', e1, e2, e3, e4, fun r hr => ?_⟩
      have hn : ∃ s, (nextG x2 dt2 ws2).2 = s ∧ tidyJ (HSg 20) (nextG x2 dt2 ws2).1 s = s := by
        refine ⟨_, rfl, ?_⟩
        unfold nextG
        split
        · split
          · exact tid1 _ _ _
          · split
            · exact tid1 _ _ _
            · split
              · exact tid1 _ _ _
              · split
                · exact tid1 _ _ _
                · split
                  · exact tid0 _ _
                  · exact tid0 _ _
        · exact tid0 _ _
      obtain ⟨s, hs1, hs2⟩ := hn
      exact JumpTo.step (orc := t120) (lo := lo20) (ro := ro20) (fun _ _ _ _ h => h) rfl lo20_ok (tid1 x2 dt2 ws2) (jump h1 h4) (by rw [hs1]; exact hs2) (e5 r hr)
    have stop : ∀ y : An, y.data = [] → y.list.length ≤ 2000 → ∃ y' dt', endP y dt = endP y' dt' ∧ y'.data = [] ∧ szW dt' ≤ 2000 ∧ y'.list.length ≤ 2000 ∧ ∀ r, JT 0 (stE y' dt') r → JT 0 (stE y dt) r :=
      fun y h1 h2 => ⟨y, dt, rfl, h1, by omega, h2, fun r h => h⟩
    have h0 : x.list.length ≤ 2000 := by rw [hx]; simp
    match ws, hf, hs with
    | [], _, _ => exact stop x hd h0
    | [_], _, _ => exact stop x hd h0
    | name :: v :: rest, hf, hs =>
      simp only [List.length_cons] at hf
      rw [szW_cons, szW_cons] at hs
      rw [guessP]
      unfold nextG
      simp only
      by_cases h1 : name = wWhy
      · rw [if_pos h1, if_pos h1]
        exact more _ _ _ hx hd (by omega) (by omega)
      rw [if_neg h1, if_neg h1]
      by_cases h2 : name = wN
      · rw [if_pos h2, if_pos h2]
        exact more _ _ _ hx hd (by omega) (by omega)
      rw [if_neg h2, if_neg h2]
      by_cases h3 : name = wM
      · rw [if_pos h3, if_pos h3]
        exact more _ _ _ hx hd (by omega) (by omega)
      rw [if_neg h3, if_neg h3]
      by_cases h4 : name = wData
      · rw [if_pos h4, if_pos h4]
        have ha := List.takeWhile_append_dropWhile (p := pL) (l := v :: rest)
        have hz : szW ((v :: rest).takeWhile pL) + szW ((v :: rest).dropWhile pL) = v.length + 1 + szW rest := by rw [← szW_app, ha, szW_cons]
        have hl : ((v :: rest).dropWhile pL).length ≤ rest.length + 1 := by
          have := congrArg List.length ha
          rw [List.length_append, List.length_cons] at this
          omega
        exact more x (dt ++ (v :: rest).takeWhile pL) ((v :: rest).dropWhile pL) hx hd (by omega) (by rw [szW_app]; omega)
      rw [if_neg h4, if_neg h4]
      by_cases h5 : name = wList
      · rw [if_pos h5, if_pos h5]
        rw [hx, List.nil_append]
        have := szW_len rest
        exact stop { x with list := (v :: rest).map numP } hd (by simp only [List.length_map, List.length_cons]; omega)
      · rw [if_neg h5, if_neg h5]
        exact stop x hd h0
end Go.Eng
end

/- Answers as lines: guess is guessP, as a contract. -/
section
namespace Go.Eng
open Go
set_option maxRecDepth 100000
set_option linter.unusedSimpArgs false

attribute [local irreducible] fnS loS tround P137
theorem p138 {t : List UInt8} (h : t.length ≤ 2000) (G : List Ent) : P138 [.dat (.str (ba t))] G = some (oLg G (lgOf (progL t))) := by
  unfold P138
  exact pureS_eq rfl (f8_run h) rfl
theorem s16_nil (G : List Ent) : S16n [.dat (.list .nil 0 []), .dat (.str (ByteArray.mk (List.toArray [32])))] G = some (oS G (ba [])) := by
  have h : ∃ G', (t1 16 [.dat (.list .nil 0 []), .dat (.str ⟨#[32]⟩)] []).run = some (.dat (.str ⟨#[]⟩), G') := by
    have := join_nil
    cases ho : (t1 16 [.dat (.list .nil 0 []), .dat (.str ⟨#[32]⟩)] []).run with
    | none => rw [ho] at this; cases this
    | some r =>
      rw [ho] at this
      simp only [Option.map_some, Option.some.injEq] at this
      exact ⟨r.2, by rw [← this]⟩
  obtain ⟨G', h⟩ := h
  have hp : P16n [.dat (.list .nil 0 []), .dat (.str (ByteArray.mk (List.toArray [32])))] G = some (.dat (.str ⟨#[]⟩), G) := by
    unfold P16n
    exact pureS_eq rfl h rfl
  have hj : sJoin [.dat (.list .nil 0 []), .dat (.str (ByteArray.mk (List.toArray [32])))] G = none := by
    simp [sJoin]
  simp only [S16n, sJoinN]
  rw [hj]
  exact hp
def anY (y : An) : AV := anX y (if y.list = [] then .nil else .any) (if y.list = [] then 0 else 1)
attribute [local irreducible] P138 S16n
theorem end_run {y : An} {dt : List (List UInt8)} (hs : szW dt ≤ 2000) : (endG (stE y dt)).run = some (anY (endP y dt), []) := by
  have hJ := J_sz dt
  have hL := szW_len dt
  have e38 := fnS_eq (out := oLg []) oLg_inj (p138 (t := J dt) (by omega) [])
  have e16n := fnS_eq (out := oS []) oS_inj (s16_nil [])
  have e16 : dt ≠ [] → fnS (oS []) (S16n [.dat (.list .any 1 (List.take (List.length (sRow dt)) (List.drop 0 (sRow dt)))), .dat (.str (ByteArray.mk (List.toArray [32])))] []) = some (ba (J dt)) := fun h =>
    fnS_eq (out := oS []) oS_inj (s16 (by decide) h (by omega) (by omega) [])
  have hfin : endP y dt = (match progL (J dt) with
    | some s => { y with data := s }
    | none => y) := rfl
  rw [hfin]
  have any_nil : ∀ z : An, z.list = [] → anY z = anV z.why z.n z.m (ba z.data) .nil 0 [] := fun z h => by
    unfold anY anX
    rw [h]
    rfl
  have any_cons : ∀ (z : An) (v : Int) (l : List Int), z.list = v :: l → anY z = anV z.why z.n z.m (ba z.data) .any 1 (encI (v :: l)) := fun z v l h => by
    unfold anY anX
    rw [h]
    rfl
  cases dt with
  | nil =>
    cases hy : y.list with
    | nil =>
      have : stE y [] = st0 false false y.why y.n y.m (ba y.data) [] [] := by unfold stE; rw [hy]
      rw [this]
      show (eGnn y.why y.n y.m (ba y.data)).run = _
      rw [← Tr.ev_run, eGnn_eq]
      refine gStep e16n (gStep e38 ?_)
      cases progL (J []) with
      | some p => exact aT rfl (congrArg (fun a => some (a, ([] : List Ent))) (any_nil { y with data := p, list := [] } rfl).symm)
      | none => exact aF rfl (by rw [any_nil _ hy]; rfl)
    | cons v l =>
      have : stE y [] = st0 false true y.why y.n y.m (ba y.data) [] (encI (v :: l)) := by unfold stE; rw [hy]
      rw [this]
      show (eGnr y.why y.n y.m (ba y.data) (encI (v :: l))).run = _
      rw [← Tr.ev_run, eGnr_eq, List.drop_zero, List.take_length]
      refine gStep e16n (gStep e38 ?_)
      cases progL (J []) with
      | some p => exact aT rfl (congrArg (fun a => some (a, ([] : List Ent))) (any_cons { y with data := p, list := v :: l } v l rfl).symm)
      | none => exact aF rfl (by rw [any_cons _ v l hy]; rfl)
  | cons u W =>
    cases hy : y.list with
    | nil =>
      have : stE y (u :: W) = st0 true false y.why y.n y.m (ba y.data) (sRow (u :: W)) [] := by unfold stE; rw [hy]
      rw [this]
      show (eGrn y.why y.n y.m (ba y.data) (sRow (u :: W))).run = _
      rw [← Tr.ev_run, eGrn_eq]
      refine gStep (e16 (by simp)) (gStep e38 ?_)
      cases progL (J (u :: W)) with
      | some p => exact aT rfl (congrArg (fun a => some (a, ([] : List Ent))) (any_nil { y with data := p, list := [] } rfl).symm)
      | none => exact aF rfl (by rw [any_nil _ hy]; rfl)
    | cons v l =>
      have : stE y (u :: W) = st0 true true y.why y.n y.m (ba y.data) (sRow (u :: W)) (encI (v :: l)) := by unfold stE; rw [hy]
      have hq : List.take (List.length (encI (v :: l))) (List.drop 0 (encI (v :: l))) = encI (v :: l) := by rw [List.drop_zero, List.take_length]
      rw [this]
      show (eGrr y.why y.n y.m (ba y.data) (sRow (u :: W)) (encI (v :: l))).run = _
      rw [← Tr.ev_run, eGrr_eq, hq]
      refine gStep (e16 (by simp)) (gStep e38 ?_)
      cases progL (J (u :: W)) with
      | some p => exact aT rfl (congrArg (fun a => some (a, ([] : List Ent))) (any_cons { y with data := p, list := v :: l } v l rfl).symm)
      | none => exact aF rfl (by rw [any_cons _ v l hy]; rfl)
theorem next_tid (x : An) (dt ws : List (List UInt8)) : tidyJ (HSg 20) (nextG x dt ws).1 (nextG x dt ws).2 = (nextG x dt ws).2 := by
  unfold nextG
  split
  · split
    · exact tid1 _ _ _
    · split
      · exact tid1 _ _ _
      · split
        · exact tid1 _ _ _
        · split
          · exact tid1 _ _ _
          · split
            · exact tid0 _ _
            · exact tid0 _ _
  · exact tid0 _ _
theorem r20_ok : LoOk2 TT t120.runs (HSg 20) lo20 r20 := by
  refine LoOk2.of r20 fun b hb st r h => ?_
  rw [show loops r20 = [] from by kernel_rfl] at hb
  cases hb
theorem fbody20 : Go.Proofs.Tryd.f20.body = some (.seq r20 (.scope sc20)) := by kernel_rfl
noncomputable def R120 := fnE TT t120.runs (HSg 20) Go.Proofs.Tryd.f20
noncomputable def P120 := pureS R120
theorem f20_run {ws : List (List UInt8)} (h : szW ws ≤ 2000) : R120 [.dat (.list .full 1 (sRow ws))] [] = some (anY (guessP ws.length ws an0 []), []) := by
  obtain ⟨y, dt', e1, _, e3, _, e5⟩ := guess_next ws.length ws an0 [] rfl rfl (Nat.le_refl _) (by simpa [szW] using h)
  have hend := end_run (y := y) e3
  rw [← e1] at hend
  obtain ⟨⟨ex, st⟩, h1, h2⟩ := run_bindS hend
  cases ex with
  | norm => simp [Tr.run] at h2
  | exit _ => simp [Tr.run] at h2
  | goto _ => simp [Tr.run] at h2
  | ret =>
    have hfin := tfinish_ok h2
    have hlast : JT 0 (stE y dt') (.ret, st) := JumpTo.last (orc := t120) (lo := noLo) (ro := ro20) (fun _ _ _ _ h => h) rfl (LoOk2.no _) (by rw [tid0]; exact h1) (fun l' q => by cases q)
    have hj := e5 _ hlast
    have hB : (gB (sRow ws)).run = some (.goto (nextG an0 [] ws).1, (nextG an0 [] ws).2) := by
      have q := jump (x := an0) (dt := []) (ws := ws) rfl (by simpa [szW] using h)
      rw [← Tr.ev_run, gB_ev, Tr.ev_run]
      exact q
    obtain ⟨⟨ex1, s1⟩, g1, g2⟩ := run_bindS hB
    cases ex1 with
    | exit _ => simp [Tr.run] at g2
    | goto _ => simp [Tr.run] at g2
    | ret => simp [Tr.run] at g2
    | norm =>
      obtain ⟨⟨ex2, s2⟩, g3, g4⟩ := run_bindS g2
      cases ex2 with
      | exit _ => simp [Tr.run] at g4
      | norm => simp [Tr.run] at g4
      | ret => simp [Tr.run] at g4
      | goto l2 =>
        simp only [Tr.run, Option.some.injEq, Prod.mk.injEq, Ex.goto.injEq] at g4
        obtain ⟨rfl, g5⟩ := g4
        obtain ⟨K1, x1⟩ := texec2_ok (orc := t120) (lo := lo20) (ro := ro20) (oo := t120.runs) (H := HSg 20) (fun _ _ _ _ h => h) rfl r20 r20_ok _ _ g1
        obtain ⟨K2, x2⟩ := scope_exec (orc := t120) (lo := lo20) (ro := ro20) (fun _ _ _ _ h => h) rfl lo20_ok g3 (JumpTo.tidy g5 (next_tid an0 [] ws) hj)
        refine fnE_eq (K := max K1 K2) (show 1 ≤ Go.Proofs.Tryd.f20.ntmps from of_decide_eq_true (by kernel_rfl)) ?_
        unfold execFn
        rw [fbody20]
        have hx : exec TT t120.runs (max K1 K2) (HSg 20) (.seq r20 (.scope sc20)) (ini20 (sRow ws)) = some (.ret, st) := by
          simp only [exec.eq_3, exec_mono (Nat.le_max_left K1 K2) _ _ _ x1]
          exact exec_mono (Nat.le_max_right K1 K2) _ _ _ x2
        show (match exec TT t120.runs (max K1 K2) (HSg 20) (.seq r20 (.scope sc20)) (ini20 (sRow ws)) with
          | some (.norm, st) => finishK TT Go.Proofs.Tryd.f20 st
          | some (.ret, st) => finishK TT Go.Proofs.Tryd.f20 st
          | _ => none) = _
        rw [hx]
        exact hfin
end Go.Eng
end

/- Answers as lines: the program's Parse, Alike, ShowLines' law, as trees. -/
section
namespace Go.Eng
open Go
set_option maxRecDepth 100000

abbrev TA := Int × Int × Int × ByteArray × LK × Nat × Row
def anT (p : TA) : AV := anV p.1 p.2.1 p.2.2.1 p.2.2.2.1 p.2.2.2.2.1 p.2.2.2.2.2.1 p.2.2.2.2.2.2
def oA (G : List Ent) (p : TA) : AV × List Ent := (.agg [jn p.1, jn p.2.1, jn p.2.2.1, .dat (.str p.2.2.2.1), .dat (.list p.2.2.2.2.1 p.2.2.2.2.2.1 p.2.2.2.2.2.2)], G)
def oPr (G : List Ent) (p : TA × Int) : AV × List Ent := (.tup [.agg [jn p.1.1, jn p.1.2.1, jn p.1.2.2.1, .dat (.str p.1.2.2.2.1), .dat (.list p.1.2.2.2.2.1 p.1.2.2.2.2.2.1 p.1.2.2.2.2.2.2)], jn p.2], G)
noncomputable def S21 : Spec := sSplit1
noncomputable def t108 : TOrc := tCons 21 (fun a G => tspec (oRw G) (S21 a G)) (tCons 20 (fun a G => tspec (oA G) (P120 a G)) (tCons 6 (fun a G => tspec (oLn G) (P106 a G)) tNone))
noncomputable def f8pt (s : ByteArray) : Tr (AV × List Ent) := tfn TT t108 noLo Go.Proofs.Tryd.f8 [.dat (.str s)] []
noncomputable def R108 (a : List AV) (G : List Ent) : Option (AV × List Ent) := (tfn TT t108 noLo Go.Proofs.Tryd.f8 a G).run
noncomputable def P108 := pureS R108
noncomputable def t109 : TOrc := tCons 22 (fun a G => tspec (oB G) (P122 a G)) tNone
noncomputable def f9at (why n m : Int) (d : ByteArray) (k : LK) (z : Nat) (l : Row) (why' n' m' : Int) (d' : ByteArray) (k' : LK) (z' : Nat) (l' : Row) : Tr (AV × List Ent) := tfn TT t109 noLo Go.Proofs.Tryd.f9 [anV why n m d k z l, anV why' n' m' d' k' z' l'] []
noncomputable def R109 (a : List AV) (G : List Ent) : Option (AV × List Ent) := (tfn TT t109 noLo Go.Proofs.Tryd.f9 a G).run
noncomputable def P109 := pureS R109
noncomputable def t103 : TOrc := tCons 5 (fun a G => tspec (oT G) (P105 a G)) (tCons 6 (fun a G => tspec (oLn G) (P106 a G)) (tCons 7 (fun a G => tspec (oLn G) (P107 a G)) (tCons 8 (fun a G => tspec (oPr G) (P108 a G)) (tCons 9 (fun a G => tspec (oB G) (P109 a G)) tNone))))
noncomputable def f3lt (why n m : Int) (d : ByteArray) (k : LK) (z : Nat) (l : Row) : Tr (AV × List Ent) := tfn TT t103 noLo Go.Proofs.Tryd.f3 [anV why n m d k z l] []
noncomputable def R103 (a : List AV) (G : List Ent) : Option (AV × List Ent) := (tfn TT t103 noLo Go.Proofs.Tryd.f3 a G).run
end Go.Eng
end
