/- Answers as lines: the program's Parse is progA; ShowLines' law answers true. -/
import Derived.Test.YtnkiegafaiebiaaDoorSl32
section
namespace Go.Eng
open Go
set_option maxRecDepth 100000
set_option linter.unusedSimpArgs false

theorem f8pt_eq (s : ByteArray) : (f8pt s).ev =
  (rGet (fnS (fun (zr : Row) => ((AV.dat (D.list LK.full 1 zr)), [])) (S21 [(AV.dat (D.str s)), (AV.dat (D.str (ByteArray.mk (List.toArray [32]))))] [])) fun x1 =>
   (rGet (fnS (fun (p : TA) => ((AV.agg [(AV.dat (D.int IntKind.i64 p.1)), (AV.dat (D.int IntKind.i64 p.2.1)), (AV.dat (D.int IntKind.i64 p.2.2.1)), (AV.dat (D.str p.2.2.2.1)), (AV.dat (D.list p.2.2.2.2.1 p.2.2.2.2.2.1 p.2.2.2.2.2.2))]), [])) (P120 [(AV.dat (D.list LK.full 1 x1))] [])) fun x2 =>
    (rGet (fnS (fun (p : ByteArray × Int) => ((AV.tup [(AV.dat (D.str p.1)), (AV.dat (D.int IntKind.i64 p.2))]), [])) (P106 [(AV.agg [(AV.dat (D.int IntKind.i64 x2.1)), (AV.dat (D.int IntKind.i64 x2.2.1)), (AV.dat (D.int IntKind.i64 x2.2.2.1)), (AV.dat (D.str x2.2.2.2.1)), (AV.dat (D.list x2.2.2.2.2.1 x2.2.2.2.2.2.1 x2.2.2.2.2.2.2))])] [])) fun x3 =>
     (rAsk (x3.2 != (0 : Int))
      (some ((AV.tup [(AV.agg [(AV.dat (D.int IntKind.i64 (0 : Int))), (AV.dat (D.int IntKind.i64 (0 : Int))), (AV.dat (D.int IntKind.i64 (0 : Int))), (AV.dat (D.str (ByteArray.mk (List.toArray [])))), (AV.dat (D.list LK.nil 0 ([] : Row)))]), (AV.dat (D.int IntKind.i64 (6 : Int)))]), []))
      (rAsk (!((ByteArray.toList x3.1) == (ByteArray.toList s)))
       (some ((AV.tup [(AV.agg [(AV.dat (D.int IntKind.i64 (0 : Int))), (AV.dat (D.int IntKind.i64 (0 : Int))), (AV.dat (D.int IntKind.i64 (0 : Int))), (AV.dat (D.str (ByteArray.mk (List.toArray [])))), (AV.dat (D.list LK.nil 0 ([] : Row)))]), (AV.dat (D.int IntKind.i64 (6 : Int)))]), []))
       (some ((AV.tup [(AV.agg [(AV.dat (D.int IntKind.i64 x2.1)), (AV.dat (D.int IntKind.i64 x2.2.1)), (AV.dat (D.int IntKind.i64 x2.2.2.1)), (AV.dat (D.str x2.2.2.2.1)), (AV.dat (D.list x2.2.2.2.2.1 x2.2.2.2.2.2.1 x2.2.2.2.2.2.2))]), (AV.dat (D.int IntKind.i64 (0 : Int)))]), []))
      )
     )
    )
   )
  )
  := by kernel_rfl
theorem f9at_eq (why n m : Int) (d : ByteArray) (k : LK) (z : Nat) (l : Row) (why' n' m' : Int) (d' : ByteArray) (k' : LK) (z' : Nat) (l' : Row) : (f9at why n m d k z l why' n' m' d' k' z' l').ev =
  (rAsk (why == why')
   (rAsk (n == n')
    (rAsk (m == m')
     (rAsk ((ByteArray.toList d) == (ByteArray.toList d'))
      (rGet (fnS (fun (b : Bool) => ((AV.dat (D.bool b)), [])) (P122 [(AV.dat (D.list k z l)), (AV.dat (D.list k' z' l'))] [])) fun x1 =>
       (some ((AV.dat (D.bool x1)), []))
      )
      (some ((AV.dat (D.bool false)), []))
     )
     (some ((AV.dat (D.bool false)), []))
    )
    (some ((AV.dat (D.bool false)), []))
   )
   (some ((AV.dat (D.bool false)), []))
  )
  := by kernel_rfl
theorem f3lt_eq (why n m : Int) (d : ByteArray) (k : LK) (z : Nat) (l : Row) : (f3lt why n m d k z l).ev =
  (rAsk (decide ((((List.length l) : Nat) : Int) > (100 : Int)))
   (rGet (fnS (fun (x : Unit) => ((AV.dat (D.bool true)), [])) (P105 [] [])) fun _ =>
    (some ((AV.dat (D.bool true)), []))
   )
   (rAsk (decide ((((ByteArray.size d) : Nat) : Int) > (200 : Int)))
    (rGet (fnS (fun (x : Unit) => ((AV.dat (D.bool true)), [])) (P105 [] [])) fun _ =>
     (some ((AV.dat (D.bool true)), []))
    )
    (rGet (fnS (fun (p : ByteArray × Int) => ((AV.tup [(AV.dat (D.str p.1)), (AV.dat (D.int IntKind.i64 p.2))]), [])) (P106 [(AV.agg [(AV.dat (D.int IntKind.i64 why)), (AV.dat (D.int IntKind.i64 n)), (AV.dat (D.int IntKind.i64 m)), (AV.dat (D.str d)), (AV.dat (D.list k z l))])] [])) fun x3 =>
     (rGet (fnS (fun (p : ByteArray × Int) => ((AV.tup [(AV.dat (D.str p.1)), (AV.dat (D.int IntKind.i64 p.2))]), [])) (P107 [(AV.agg [(AV.dat (D.int IntKind.i64 why)), (AV.dat (D.int IntKind.i64 n)), (AV.dat (D.int IntKind.i64 m)), (AV.dat (D.str d)), (AV.dat (D.list k z l))])] [])) fun x4 =>
      (rAsk (!((ByteArray.toList x3.1) == (ByteArray.toList x4.1)))
       (some ((AV.dat (D.bool false)), []))
       (rAsk (x3.2 != x4.2)
        (some ((AV.dat (D.bool false)), []))
        (rAsk (x4.2 != (0 : Int))
         (rGet (fnS (fun (x : Unit) => ((AV.dat (D.bool true)), [])) (P105 [] [])) fun _ =>
          (some ((AV.dat (D.bool true)), []))
         )
         (rGet (fnS (fun (p : TA × Int) => ((AV.tup [(AV.agg [(AV.dat (D.int IntKind.i64 p.1.1)), (AV.dat (D.int IntKind.i64 p.1.2.1)), (AV.dat (D.int IntKind.i64 p.1.2.2.1)), (AV.dat (D.str p.1.2.2.2.1)), (AV.dat (D.list p.1.2.2.2.2.1 p.1.2.2.2.2.2.1 p.1.2.2.2.2.2.2))]), (AV.dat (D.int IntKind.i64 p.2))]), [])) (P108 [(AV.dat (D.str x3.1))] [])) fun x6 =>
          (rGet (fnS (fun (b : Bool) => ((AV.dat (D.bool b)), [])) (P109 [(AV.agg [(AV.dat (D.int IntKind.i64 why)), (AV.dat (D.int IntKind.i64 n)), (AV.dat (D.int IntKind.i64 m)), (AV.dat (D.str d)), (AV.dat (D.list k z l))]), (AV.agg [(AV.dat (D.int IntKind.i64 x6.1.1)), (AV.dat (D.int IntKind.i64 x6.1.2.1)), (AV.dat (D.int IntKind.i64 x6.1.2.2.1)), (AV.dat (D.str x6.1.2.2.2.1)), (AV.dat (D.list x6.1.2.2.2.2.1 x6.1.2.2.2.2.2.1 x6.1.2.2.2.2.2.2))])] [])) fun x7 =>
           (rAsk x7
            (rAsk (x6.2 == (0 : Int))
             (rGet (fnS (fun (x : Unit) => ((AV.dat (D.bool true)), [])) (P105 [] [])) fun _ =>
              (some ((AV.dat (D.bool true)), []))
             )
             (some ((AV.dat (D.bool false)), []))
            )
            (some ((AV.dat (D.bool false)), []))
           )
          )
         )
        )
       )
      )
     )
    )
   )
  )
  := by kernel_rfl
/-! ### contracts -/
theorem lo34_ok : ∀ c, Go.Proofs.Tryd.f34.body = some c → LoOk2 TT tNone.runs (HSc 34) lo34 c := lo_one (lp := lp34) (by kernel_rfl) fun st r h => by
  rw [show firstRegion lp34 = 3 from by kernel_rfl] at h
  exact tlo_ok h
theorem cW34 : COk PP 34 R134 := tok_fn (H := HSc 34) TT_ok TOk.nil Go.Proofs.Tryd.func34 (by kernel_rfl) lo34_ok
theorem cW18 : COk PP 18 R118 := tok_fn (H := fun _ => []) TT_ok (TOk.cons (COk.spec (out := fun _ G => oS G) cW34.pure) TOk.nil) Go.Proofs.Tryd.func18 (by kernel_rfl) fun _ _ => LoOk2.no _
theorem cW37 : COk PP 37 R137 := tok_fn (H := fun _ => []) TT_ok (TOk.cons (COk.spec2 (o1 := fun _ G => oAo G) (o2 := fun _ G => oAe G) c51) TOk.nil) Go.Proofs.Tryd.func37 (by kernel_rfl) fun _ _ => LoOk2.no _
theorem lo22_ok : ∀ c, Go.Proofs.Tryd.f22.body = some c → LoOk2 TT tNone.runs (HSc 22) lo22 c := lo_one (lp := lp22) (by kernel_rfl) fun st r h => by
  rw [show firstRegion lp22 = 4 from by kernel_rfl] at h
  exact tlo_ok h
theorem cW22 : COk PP 22 R122 := tok_fn (H := HSc 22) TT_ok TOk.nil Go.Proofs.Tryd.func22 (by kernel_rfl) lo22_ok
theorem t106_ok : TOk PP t106 := TOk.cons (COk.spec (out := fun _ G => oB G) (t8_ok 12).pure) (TOk.cons (COk.spec (out := fun _ G => oS G) c13) (TOk.cons (COk.spec (out := fun _ G => oS G) c14) (TOk.cons (COk.spec (out := fun _ G => oS G) c7.pure) (TOk.cons (COk.spec (out := fun _ G => oS G) c16n) TOk.nil))))
theorem lo6_ok : ∀ c, Go.Proofs.Tryd.f6.body = some c → LoOk2 TT t106.runs (HSc 6) lo6 c := lo_one (lp := lp6) (by kernel_rfl) fun st r h => by
  rw [show firstRegion lp6 = 13 from by kernel_rfl] at h
  exact tlo2_ok h
theorem cW6 : COk PP 6 R106 := tok_fn (H := HSc 6) TT_ok t106_ok Go.Proofs.Tryd.func6 (by kernel_rfl) lo6_ok
theorem t107_ok : TOk PP t107 := TOk.cons (COk.spec (out := fun _ G => oB G) (t8_ok 17).pure) (TOk.cons (COk.spec (out := fun _ G => oS G) cW18.pure) (TOk.cons (COk.spec (out := fun _ G => oS G) c10.pure) TOk.nil))
theorem lo7_ok : ∀ c, Go.Proofs.Tryd.f7.body = some c → LoOk2 TT t107.runs (HSc 7) lo7 c := lo_one (lp := lp7) (by kernel_rfl) fun st r h => by
  rw [show firstRegion lp7 = 13 from by kernel_rfl] at h
  exact tlo_ok h
theorem cW7 : COk PP 7 R107 := tok_fn (H := HSc 7) TT_ok t107_ok Go.Proofs.Tryd.func7 (by kernel_rfl) lo7_ok
theorem t120_ok : TOk PP t120 := TOk.cons (COk.spec (out := fun _ G => oI G) cW37.pure) (TOk.cons (COk.spec (out := fun _ G => oS G) c16n) (TOk.cons (COk.spec (out := fun _ G => oLg G) c8.pure) TOk.nil))
theorem cW20 : COk PP 20 R120 := fnE_ok TT_ok t120_ok Go.Proofs.Tryd.func20 (by kernel_rfl)
theorem t108_ok : TOk PP t108 := TOk.cons (COk.spec (out := fun _ G => oRw G) c21) (TOk.cons (COk.spec (out := fun _ G => oA G) cW20.pure) (TOk.cons (COk.spec (out := fun _ G => oLn G) cW6.pure) TOk.nil))
theorem cW8 : COk PP 8 R108 := tok_fn (H := fun _ => []) TT_ok t108_ok Go.Proofs.Tryd.func8 (by kernel_rfl) fun _ _ => LoOk2.no _
theorem cW9 : COk PP 9 R109 := tok_fn (H := fun _ => []) TT_ok (TOk.cons (COk.spec (out := fun _ G => oB G) cW22.pure) TOk.nil) Go.Proofs.Tryd.func9 (by kernel_rfl) fun _ _ => LoOk2.no _
theorem t103_ok : TOk PP t103 := TOk.cons (COk.spec (out := fun _ G => oT G) (E_ok 5).pure) (TOk.cons (COk.spec (out := fun _ G => oLn G) cW6.pure) (TOk.cons (COk.spec (out := fun _ G => oLn G) cW7.pure) (TOk.cons (COk.spec (out := fun _ G => oPr G) cW8.pure) (TOk.cons (COk.spec (out := fun _ G => oB G) cW9.pure) TOk.nil))))
theorem cW3 : COk PP 3 R103 := tok_fn (H := fun _ => []) TT_ok t103_ok Go.Proofs.Tryd.func3 (by kernel_rfl) fun _ _ => LoOk2.no _

def tY (y : An) : TA := (y.why, y.n, y.m, ba y.data, if y.list = [] then .nil else .any, if y.list = [] then 0 else 1, encI y.list)
theorem oA_inj {G : List Ent} : ∀ x y, oA G x = oA G y → x = y := by
  rintro ⟨a, b, c, d, k, z, l⟩ ⟨a', b', c', d', k', z', l'⟩ h
  simp [oA, jn] at h
  obtain ⟨rfl, rfl, rfl, rfl, rfl, rfl, rfl⟩ := h
  rfl
theorem oLn_inj {G : List Ent} : ∀ x y, oLn G x = oLn G y → x = y := by
  rintro ⟨a, b⟩ ⟨c, d⟩ h
  simp [oLn, jn] at h
  obtain ⟨rfl, rfl⟩ := h
  rfl
theorem oPr_inj {G : List Ent} : ∀ x y, oPr G x = oPr G y → x = y := by
  rintro ⟨⟨a, b, c, d, k, z, l⟩, e⟩ ⟨⟨a', b', c', d', k', z', l'⟩, e'⟩ h
  simp [oPr, jn] at h
  obtain ⟨⟨rfl, rfl, rfl, rfl, rfl, rfl, rfl⟩, rfl⟩ := h
  rfl
theorem p106 {x : An} {k : LK} {z : Nat} (hf : fitA x) (hz : x.list ≠ [] → z = 1) (G : List Ent) : P106 [anX x k z] G = some (oLn G (lnOf (lineP x))) := by
  unfold P106
  exact pureS_eq rfl (f6_run hf hz) rfl
theorem p107 {x : An} {k : LK} {z : Nat} (hf : fitA x) (hz : x.list ≠ [] → z = 1) (G : List Ent) : P107 [anX x k z] G = some (oLn G (lnOf (lineP x))) := by
  unfold P107
  exact pureS_eq rfl (f7_run hf hz) rfl
theorem p120 {ws : List (List UInt8)} (h : szW ws ≤ 2000) (G : List Ent) : P120 [.dat (.list .full 1 (sRow ws))] G = some (oA G (tY (guessP ws.length ws an0 []))) := by
  unfold P120
  exact pureS_eq rfl (f20_run h) rfl
theorem cuts_sz (b : UInt8) : ∀ l : List UInt8, szW (cutsL b l) = l.length + 1
  | [] => rfl
  | c :: l => by
    have ih := cuts_sz b l
    unfold cutsL
    split
    · rw [szW_cons, ih, List.length_nil, List.length_cons]; omega
    · split
      · rename_i e
        rw [e] at ih
        simp [szW] at ih
      · rename_i x xs e
        rw [e, szW_cons] at ih
        rw [szW_cons, List.length_cons, List.length_cons]; omega
theorem s21 {t : List UInt8} (h : t.length ≤ 3000) (G : List Ent) : S21 [.dat (.str (ba t)), .dat (.str (ByteArray.mk (List.toArray [32])))] G = some (oRw G (sRow (cutsL 32 t))) := by
  simp only [S21, sSplit1]
  rw [if_pos (by rw [ba_sz]; omega)]
  rfl
def prOf (o : Option An) : TA × Int := match o with
  | some x => (tY x, 0)
  | none => ((0, 0, 0, ba [], .nil, 0, []), 6)
attribute [local irreducible] fnS loS tround P106 P107 P120 P122 P105 S21
theorem sameB (a b : List UInt8) : ((ba a).toList == (ba b).toList) = decide (a = b) := by
  rw [ba_list b, eqw]
theorem f8_run' {t : List UInt8} (h : t.length ≤ 1900) : R108 [.dat (.str (ba t))] [] = some (oPr [] (prOf (progA t))) := by
  have key : ∀ o, (f8pt (ba t)).ev = o → R108 [.dat (.str (ba t))] [] = o := fun o h => by
    rw [Tr.ev_run] at h
    exact h
  refine key _ ?_
  rw [f8pt_eq]
  have hsz := cuts_sz 32 t
  have e20 := fnS_eq (out := oA []) oA_inj (p120 (ws := cutsL 32 t) (by omega) [])
  have hf : fitA (guessP (cutsL 32 t).length (cutsL 32 t) an0 []) := guessP_fit _ _ _ _ an0_fit
  unfold progA
  simp only
  generalize guessP (cutsL 32 t).length (cutsL 32 t) an0 [] = x at e20 hf
  have e6 := fnS_eq (out := oLn []) oLn_inj (p106 (x := x) (k := if x.list = [] then .nil else .any) (z := if x.list = [] then 0 else 1) hf (fun h => if_neg h) [])
  refine gStep (fnS_eq (out := oRw []) oRw_inj (s21 (by omega) [])) (gStep e20 (gStep e6 ?_))
  cases hl : lineP x with
  | none =>
    rw [if_neg (by simp)]
    exact aT rfl rfl
  | some s =>
    refine aF rfl ?_
    by_cases hs : s = t
    · subst hs
      rw [if_pos rfl]
      exact aF (by show (!((ba s).toList == (ba s).toList)) = false; rw [sameB]; simp) rfl
    · rw [if_neg (by simpa using hs)]
      exact aT (by show (!((ba s).toList == (ba t).toList)) = true; rw [sameB]; simp [hs]) rfl
theorem p108 {t : List UInt8} (h : t.length ≤ 1900) (G : List Ent) : P108 [.dat (.str (ba t))] G = some (oPr G (prOf (progA t))) := by
  unfold P108
  refine pureS_eq rfl (f8_run' h) ?_
  cases progA t <;> rfl
theorem p109 {x : An} {k k' : LK} {z z' : Nat} (h : x.list.length ≤ 1000) (hz : x.list ≠ [] → z = 1 ∧ z' = 1) (G : List Ent) : P109 [anX x k z, anX x k' z'] G = some (oB G true) := by
  have key : ∀ o, (f9at x.why x.n x.m (ba x.data) k z (encI x.list) x.why x.n x.m (ba x.data) k' z' (encI x.list)).ev = o → R109 [anX x k z, anX x k' z'] [] = o := fun o h => by
    rw [Tr.ev_run] at h
    exact h
  unfold P109
  refine pureS_eq (G0 := []) rfl (key _ ?_) rfl
  rw [f9at_eq]
  exact aT (by simp) (aT (by simp) (aT (by simp) (aT (by simp) (gStep (fnS_eq (out := oB []) oB_inj (p122 h hz [])) rfl))))
theorem szW_itoas : ∀ l : List Int, (∀ v ∈ l, fit64 v) → szW (l.map Go.Lib.itoa) ≤ 22 * l.length
  | [], _ => Nat.zero_le _
  | v :: l, h => by
    have ih := szW_itoas l fun u hu => h u (by simp [hu])
    have := itoa_le (h v (by simp))
    rw [List.map_cons, szW_cons, List.length_cons]
    omega
theorem headV_sz {x : An} (hf : fitA x) : szW (headV x) ≤ 300 := by
  obtain ⟨h1, h2, h3, _⟩ := hf
  have e1 := itoa_le h1
  have e2 := itoa_le h2
  have e3 := itoa_le h3
  have e4 := short_le x.data
  unfold headV secN secM secV secT
  split <;> split <;> split <;> split <;> simp [szW, wWhy, wN, wM, wData, wList] <;> omega
theorem line_len {x : An} (hf : fitA x) {s : List UInt8} (h : lineP x = some s) : s.length ≤ 1900 := by
  unfold lineP at h
  split at h
  · rename_i ho
    injection h with h
    obtain ⟨hd, h60⟩ := okA_parts ho
    rw [← J_line hd] at h
    have h1 := J_sz (headV x ++ x.list.map Go.Lib.itoa)
    have h2 := headV_sz hf
    have h3 := szW_itoas x.list hf.2.2.2
    rw [szW_app] at h1
    rw [h] at h1
    omega
  · cases h
attribute [local irreducible] P108 P109
theorem f3_runL {x : An} {k : LK} {z : Nat} (hf : fitA x) (hz : x.list ≠ [] → z = 1) : R103 [anX x k z] [] = some (.dat (.bool true), []) := by
  have key : ∀ o, (f3lt x.why x.n x.m (ba x.data) k z (encI x.list)).ev = o → R103 [anX x k z] [] = o := fun o h => by
    rw [Tr.ev_run] at h
    exact h
  refine key _ ?_
  rw [f3lt_eq, ba_sz]
  have hx : (encI x.list).length = x.list.length := encI_len _
  have e5 := fnS_eq (out := oT []) oT_inj (p105 (G := []))
  by_cases h1 : x.list.length > 100
  · exact aT (by rw [decide_eq_true_eq]; omega) (gStep e5 rfl)
  refine aF (by rw [decide_eq_false_iff_not]; omega) ?_
  by_cases h2 : x.data.length > 200
  · exact aT (by rw [decide_eq_true_eq]; omega) (gStep e5 rfl)
  refine aF (by rw [decide_eq_false_iff_not]; omega) ?_
  have e6 := fnS_eq (out := oLn []) oLn_inj (p106 (k := k) hf hz [])
  have e7 := fnS_eq (out := oLn []) oLn_inj (p107 (k := k) hf hz [])
  refine gStep e6 (gStep e7 (aF (by simp) (aF (by simp) ?_)))
  cases hl : lineP x with
  | none => exact aT rfl (gStep e5 rfl)
  | some s =>
    have e8 := fnS_eq (out := oPr []) oPr_inj (p108 (line_len hf hl) [])
    rw [progA_line hf hl] at e8
    have e9 := fnS_eq (out := oB []) oB_inj (p109 (x := x) (k := k) (k' := if x.list = [] then .nil else .any) (z := z) (z' := if x.list = [] then 0 else 1) (by omega) (fun h => ⟨hz h, if_neg h⟩) [])
    exact aF rfl (gStep e8 (gStep e9 (aT rfl (aT rfl (gStep e5 rfl)))))
end Go.Eng
end
