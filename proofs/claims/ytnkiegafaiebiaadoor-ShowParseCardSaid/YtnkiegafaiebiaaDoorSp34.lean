/- Answers as lines: the program's Parse is progA; ShowLines' law answers true. -/
import Derived.Test.YtnkiegafaiebiaaDoorSp33
import Derived.Test.YtnkiegafaiebiaaDoorSp30
section
namespace Go.Eng
open Go
set_option maxRecDepth 100000
set_option linter.unusedSimpArgs false

theorem f8pt_eq (s : ByteArray) : (f8pt s).ev =
 (rGet (fnS (fun (zr : Row) => ((AV.dat (D.list LK.full 1 zr)), [])) (S21 [(AV.dat (D.str s)), (AV.dat (D.str (ByteArray.mk (List.toArray [32]))))] [])) fun x1 =>
 (rGet (fnS (fun (p : TA) => ((AV.agg [(AV.dat (D.int IntKind.i64 p.1)), (AV.dat (D.int IntKind.i64 p.2.1)), (AV.dat (D.int IntKind.i64 p.2.2.1)), (AV.dat (D.str p.2.2.2.1)), (AV.dat (D.list p.2.2.2.2.1 p.2.2.2.2.2.1 p.2.2.2.2.2.2))]), [])) (P120 [(AV.dat (D.list LK.full 1 x1))] [])) fun x2 =>
 (rGet (fnS (fun (p : ByteArray × Int) => ((AV.tup [(AV.dat (D.str p.1)), (AV.dat (D.int IntKind.i64 p.2))]), [])) (P106 [(AV.agg [(AV.dat (D.int IntKind.i64 x2.1)), (AV.dat (D.int IntKind.i64 x2.2.1)), (AV.dat (D.int IntKind.i64 x2.2.2.1)), (AV.dat (D.str x2.2.2.2.1)), (AV.dat (D.list x2.2.2.2.2.1 x2.2.2.2.2.2.1 x2.2.2.2.2.2.2))])] [])) fun x3 =>
 (rAsk (x3.2 != (0 : Int))
 (some ((AV.tup [(AV.agg [(AV.dat (D.int IntKind.i64 (0 : Int))), (AV.dat (D.int IntKind.i64 (0 : Int))), (AV.dat (D.int IntKind.i64 (0 : Int))), (AV.dat (D.str (ByteArray.mk (List.toArray [])))), (AV.dat (D.list LK.nil 0 ([] : Row)))]), (AV.dat (D.int IntKind.i64 (6 : Int)))]), []))
 (rAsk (!((ByteArray.toList x3.1) == (ByteArray.toList s)))
 (some ((AV.tup [(AV.agg [(AV.dat (D.int IntKind.i64 (0 : Int))), (AV.dat (D.int IntKind.i64 (0 : Int))), (AV.dat (D.int IntKind.i64 (0 : Int))), (AV.dat (D.str (ByteArray.mk (List.toArray [])))), (AV.dat (D.list LK.nil 0 ([] : Row)))]), (AV.dat (D.int IntKind.i64 (6 : Int)))]), []))
 (some ((AV.tup [(AV.agg [(AV.dat (D.int IntKind.i64 x2.1)), (AV.dat (D.int IntKind.i64 x2.2.1)), (AV.dat (D.int IntKind.i64 x2.2.2.1)), (AV.dat (D.str x2.2.2.2.1)), (AV.dat (D.list x2.2.2.2.2.1 x2.2.2.2.2.2.1 x2.2.2.2.2.2.2))]), (AV.dat (D.int IntKind.i64 (0 : Int)))]), []))
 )
 )
 )
 )
 )
  := by kernel_rfl
theorem f9at_eq (why n m : Int) (d : ByteArray) (k : LK) (z : Nat) (l : Row) (why' n' m' : Int) (d' : ByteArray) (k' : LK) (z' : Nat) (l' : Row) : (f9at why n m d k z l why' n' m' d' k' z' l').ev =
 (rAsk (why == why')
 (rAsk (n == n')
 (rAsk (m == m')
 (rAsk ((ByteArray.toList d) == (ByteArray.toList d'))
 (rGet (fnS (fun (b : Bool) => ((AV.dat (D.bool b)), [])) (P122 [(AV.dat (D.list k z l)), (AV.dat (D.list k' z' l'))] [])) fun x1 =>
 (some ((AV.dat (D.bool x1)), []))
 )
 (some ((AV.dat (D.bool false)), []))
 )
 (some ((AV.dat (D.bool false)), []))
 )
 (some ((AV.dat (D.bool false)), []))
 )
 (some ((AV.dat (D.bool false)), []))
 )
  := by kernel_rfl
theorem f3lt_eq (why n m : Int) (d : ByteArray) (k : LK) (z : Nat) (l : Row) : (f3lt why n m d k z l).ev =
 (rAsk (decide ((((List.length l) : Nat) : Int) > (100 : Int)))
 (rGet (fnS (fun (x : Unit) => ((AV.dat (D.bool true)), [])) (P105 [] [])) fun _ =>
 (some ((AV.dat (D.bool true)), []))
 )
 (rAsk (decide ((((ByteArray.size d) : Nat) : Int) > (200 : Int)))
 (rGet (fnS (fun (x : Unit) => ((AV.dat (D.bool true)), [])) (P105 [] [])) fun _ =>
 (some ((AV.dat (D.bool true)), []))
 )
 (rGet (fnS (fun (p : ByteArray × Int) => ((AV.tup [(AV.dat (D.str p.1)), (AV.dat (D.int IntKind.i64 p.2))]), [])) (P106 [(AV.agg [(AV.dat (D.int IntKind.i64 why)), (AV.dat (D.int IntKind.i64 n)), (AV.dat (D.int IntKind.i64 m)), (AV.dat (D.str d)), (AV.dat (D.list k z l))])] [])) fun x3 =>
 (rGet (fnS (fun (p : ByteArray × Int) => ((AV.tup [(AV.dat (D.str p.1)), (AV.dat (D.int IntKind.i64 p.2))]), [])) (P107 [(AV.agg [(AV.dat (D.int IntKind.i64 why)), (AV.dat (D.int IntKind.i64 n)), (AV.dat (D.int IntKind.i64 m)), (AV.dat (D.str d)), (AV.dat (D.list k z l))])] [])) fun x4 =>
 (rAsk (!((ByteArray.toList x3.1) == (ByteArray.toList x4.1)))
 (some ((AV.dat (D.bool false)), []))
 (rAsk (x3.2 != x4.2)
 (some ((AV.dat (D.bool false)), []))
 (rAsk (x4.2 != (0 : Int))
 (rGet (fnS (fun (x : Unit) => ((AV.dat (D.bool true)), [])) (P105 [] [])) fun _ =>
 (some ((AV.dat (D.bool true)), []))
 )
 (rGet (fnS (fun (p : TA × Int) => ((AV.tup [(AV.agg [(AV.dat (D.int IntKind.i64 p.1.1)), (AV.dat (D.int IntKind.i64 p.1.2.1)), (AV.dat (D.int IntKind.i64 p.1.2.2.1)), (AV.dat (D.str p.1.2.2.2.1)), (AV.dat (D.list p.1.2.2.2.2.1 p.1.2.2.2.2.2.1 p.1.2.2.2.2.2.2))]), (AV.dat (D.int IntKind.i64 p.2))]), [])) (P108 [(AV.dat (D.str x3.1))] [])) fun x6 =>
 (rGet (fnS (fun (b : Bool) => ((AV.dat (D.bool b)), [])) (P109 [(AV.agg [(AV.dat (D.int IntKind.i64 why)), (AV.dat (D.int IntKind.i64 n)), (AV.dat (D.int IntKind.i64 m)), (AV.dat (D.str d)), (AV.dat (D.list k z l))]), (AV.agg [(AV.dat (D.int IntKind.i64 x6.1.1)), (AV.dat (D.int IntKind.i64 x6.1.2.1)), (AV.dat (D.int IntKind.i64 x6.1.2.2.1)), (AV.dat (D.str x6.1.2.2.2.1)), (AV.dat (D.list x6.1.2.2.2.2.1 x6.1.2.2.2.2.2.1 x6.1.2.2.2.2.2.2))])] [])) fun x7 =>
 (rAsk x7
 (rAsk (x6.2 == (0 : Int))
 (rGet (fnS (fun (x : Unit) => ((AV.dat (D.bool true)), [])) (P105 [] [])) fun _ =>
 (some ((AV.dat (D.bool true)), []))
 )
 (some ((AV.dat (D.bool false)), []))
 )
 (some ((AV.dat (D.bool false)), []))
 )
 )
 )
 )
 )
 )
 )
 )
 )
 )
  := by kernel_rfl
/-! ### contracts -/
theorem lo34_ok : ∀ c, Go.Proofs.Tryd.f34.body = some c → LoOk2 TT tNone.runs (HSc 34) lo34 c := lo_one (lp := lp34) (by kernel_rfl) fun st r h => by
  rw [show firstRegion lp34 = 3 from by kernel_rfl] at h
  exact tlo_ok h
theorem cW34 : COk PP 34 R134 := tok_fn (H := HSc 34) TT_ok TOk.nil Go.Proofs.Tryd.func34 (by kernel_rfl) lo34_ok
theorem cW18 : COk PP 18 R118 := tok_fn (H := fun _ => []) TT_ok (TOk.cons (COk.spec (out := fun _ G => oS G) cW34.pure) TOk.nil) Go.Proofs.Tryd.func18 (by kernel_rfl) fun _ _ => LoOk2.no _
theorem cW37 : COk PP 37 R137 := tok_fn (H := fun _ => []) TT_ok (TOk.cons (COk.spec2 (o1 := fun _ G => oAo G) (o2 := fun _ G => oAe G) c51) TOk.nil) Go.Proofs.Tryd.func37 (by kernel_rfl) fun _ _ => LoOk2.no _
theorem lo22_ok : ∀ c, Go.Proofs.Tryd.f22.body = some c → LoOk2 TT tNone.runs (HSc 22) lo22 c := lo_one (lp := lp22) (by kernel_rfl) fun st r h => by
  rw [show firstRegion lp22 = 4 from by kernel_rfl] at h
  exact tlo_ok h
theorem cW22 : COk PP 22 R122 := tok_fn (H := HSc 22) TT_ok TOk.nil Go.Proofs.Tryd.func22 (by kernel_rfl) lo22_ok
theorem t106_ok : TOk PP t106 := TOk.cons (COk.spec (out := fun _ G => oB G) (t8_ok 12).pure) (TOk.cons (COk.spec (out := fun _ G => oS G) c13) (TOk.cons (COk.spec (out := fun _ G => oS G) c14) (TOk.cons (COk.spec (out := fun _ G => oS G) c7.pure) (TOk.cons (COk.spec (out := fun _ G => oS G) c16n) TOk.nil))))
theorem lo6_ok : ∀ c, Go.Proofs.Tryd.f6.body = some c → LoOk2 TT t106.runs (HSc 6) lo6 c := lo_one (lp := lp6) (by kernel_rfl) fun st r h => by
  rw [show firstRegion lp6 = 13 from by kernel_rfl] at h
  exact tlo2_ok h
theorem cW6 : COk PP 6 R106 := tok_fn (H := HSc 6) TT_ok t106_ok Go.Proofs.Tryd.func6 (by kernel_rfl) lo6_ok
theorem t107_ok : TOk PP t107 := TOk.cons (COk.spec (out := fun _ G => oB G) (t8_ok 17).pure) (TOk.cons (COk.spec (out := fun _ G => oS G) cW18.pure) (TOk.cons (COk.spec (out := fun _ G => oS G) c10.pure) TOk.nil))
theorem lo7_ok : ∀ c, Go.Proofs.Tryd.f7.body = some c → LoOk2 TT t107.runs (HSc 7) lo7 c := lo_one (lp := lp7) (by kernel_rfl) fun st r h => by
  rw [show firstRegion lp7 = 13 from by kernel_rfl] at h
  exact tlo_ok h
theorem cW7 : COk PP 7 R107 := tok_fn (H := HSc 7) TT_ok t107_ok Go.Proofs.Tryd.func7 (by kernel_rfl) lo7_ok
theorem t120_ok : TOk PP t120 := TOk.cons (COk.spec (out := fun _ G => oI G) cW37.pure) (TOk.cons (COk.spec (out := fun _ G => oS G) c16n) (TOk.cons (COk.spec (out := fun _ G => oLg G) c8.pure) TOk.nil))
theorem cW20 : COk PP 20 R120 := fnE_ok TT_ok t120_ok Go.Proofs.Tryd.func20 (by kernel_rfl)
theorem t108_ok : TOk PP t108 := TOk.cons (COk.spec (out := fun _ G => oRw G) c21) (TOk.cons (COk.spec (out := fun _ G => oA G) cW20.pure) (TOk.cons (COk.spec (out := fun _ G => oLn G) cW6.pure) TOk.nil))
theorem cW8 : COk PP 8 R108 := tok_fn (H := fun _ => []) TT_ok t108_ok Go.Proofs.Tryd.func8 (by kernel_rfl) fun _ _ => LoOk2.no _
theorem cW9 : COk PP 9 R109 := tok_fn (H := fun _ => []) TT_ok (TOk.cons (COk.spec (out := fun _ G => oB G) cW22.pure) TOk.nil) Go.Proofs.Tryd.func9 (by kernel_rfl) fun _ _ => LoOk2.no _
theorem t103_ok : TOk PP t103 := TOk.cons (COk.spec (out := fun _ G => oT G) (E_ok 5).pure) (TOk.cons (COk.spec (out := fun _ G => oLn G) cW6.pure) (TOk.cons (COk.spec (out := fun _ G => oLn G) cW7.pure) (TOk.cons (COk.spec (out := fun _ G => oPr G) cW8.pure) (TOk.cons (COk.spec (out := fun _ G => oB G) cW9.pure) TOk.nil))))
theorem cW3 : COk PP 3 R103 := tok_fn (H := fun _ => []) TT_ok t103_ok Go.Proofs.Tryd.func3 (by kernel_rfl) fun _ _ => LoOk2.no _

def tY (y : An) : TA := (y.why, y.n, y.m, ba y.data, if y.list = [] then .nil else .any, if y.list = [] then 0 else 1, encI y.list)
theorem oA_inj {G : List Ent} : ∀ x y, oA G x = oA G y → x = y := by
  rintro ⟨a, b, c, d, k, z, l⟩ ⟨a', b', c', d', k', z', l'⟩ h
  simp [oA, jn] at h
  obtain ⟨rfl, rfl, rfl, rfl, rfl, rfl, rfl⟩ := h
  rfl
theorem oLn_inj {G : List Ent} : ∀ x y, oLn G x = oLn G y → x = y := by
  rintro ⟨a, b⟩ ⟨c, d⟩ h
  simp [oLn, jn] at h
  obtain ⟨rfl, rfl⟩ := h
  rfl
theorem oPr_inj {G : List Ent} : ∀ x y, oPr G x = oPr G y → x = y := by
  rintro ⟨⟨a, b, c, d, k, z, l⟩, e⟩ ⟨⟨a', b', c', d', k', z', l'⟩, e'⟩ h
  simp [oPr, jn] at h
  obtain ⟨⟨rfl, rfl, rfl, rfl, rfl, rfl, rfl⟩, rfl⟩ := h
  rfl
theorem p106 {x : An} {k : LK} {z : Nat} (hf : fitA x) (hz : x.list ≠ [] → z = 1) (G : List Ent) : P106 [anX x k z] G = some (oLn G (lnOf (lineP x))) := by
  unfold P106
  exact pureS_eq rfl (f6_run hf hz) rfl
theorem p107 {x : An} {k : LK} {z : Nat} (hf : fitA x) (hz : x.list ≠ [] → z = 1) (G : List Ent) : P107 [anX x k z] G = some (oLn G (lnOf (lineP x))) := by
  unfold P107
  exact pureS_eq rfl (f7_run hf hz) rfl
theorem p120 {ws : List (List UInt8)} (h : szW ws ≤ 2000) (G : List Ent) : P120 [.dat (.list .full 1 (sRow ws))] G = some (oA G (tY (guessP ws.length ws an0 []))) := by
  unfold P120
  exact pureS_eq rfl (f20_run h) rfl
theorem cuts_sz (b : UInt8) : ∀ l : List UInt8, szW (cutsL b l) = l.length + 1
  | [] => rfl
  | c :: l => by
    have ih := cuts_sz b l
    unfold cutsL
    split
    · rw [szW_cons, ih, List.length_nil, List.length_cons]; omega
    · split
      · rename_i e
        rw [e] at ih
        simp [szW] at ih
      · rename_i x xs e
        rw [e, szW_cons] at ih
        rw [szW_cons, List.length_cons, List.length_cons]; omega
theorem s21 {t : List UInt8} (h : t.length ≤ 3000) (G : List Ent) : S21 [.dat (.str (ba t)), .dat (.str (ByteArray.mk (List.toArray [32])))] G = some (oRw G (sRow (cutsL 32 t))) := by
  simp only [S21, sSplit1]
  rw [if_pos (by rw [ba_sz]; omega)]
  rfl
def prOf (o : Option An) : TA × Int := match o with
  | some x => (tY x, 0)
  | none => ((0, 0, 0, ba [], .nil, 0, []), 6)
attribute [local irreducible] fnS loS tround P106 P107 P120 P122 P105 S21
theorem sameB (a b : List UInt8) : ((ba a).toList == (ba b).toList) = decide (a = b) := by
  rw [ba_list b, eqw]
theorem f8_run' {t : List UInt8} (h : t.length ≤ 1900) : R108 [.dat (.str (ba t))] [] = some (oPr [] (prOf (progA t))) := by
  have key : ∀ o, (f8pt (ba t)).ev = o → R108 [.dat (.str (ba t))] [] = o := fun o h => by
    rw [Tr.ev_run] at h
    exact h
  refine key _ ?_
  rw [f8pt_eq]
  have hsz := cuts_sz 32 t
  have e20 := fnS_eq (out := oA []) oA_inj (p120 (ws := cutsL 32 t) (by omega) [])
  have hf : fitA (guessP (cutsL 32 t).length (cutsL 32 t) an0 []) := guessP_fit _ _ _ _ an0_fit
  unfold progA
  simp only
  generalize guessP (cutsL 32 t).length (cutsL 32 t) an0 [] = x at e20 hf
  have e6 := fnS_eq (out := oLn []) oLn_inj (p106 (x := x) (k := if x.list = [] then .nil else .any) (z := if x.list = [] then 0 else 1) hf (fun h => if_neg h) [])
  refine gStep (fnS_eq (out := oRw []) oRw_inj (s21 (by omega) [])) (gStep e20 (gStep e6 ?_))
  cases hl : lineP x with
  | none =>
    rw [if_neg (by simp)]
    exact aT rfl rfl
  | some s =>
    refine aF rfl ?_
    by_cases hs : s = t
    · subst hs
      rw [if_pos rfl]
      exact aF (by show (!((ba s).toList == (ba s).toList)) = false; rw [sameB]; simp) rfl
    · rw [if_neg (by simpa using hs)]
      exact aT (by show (!((ba s).toList == (ba t).toList)) = true; rw [sameB]; simp [hs]) rfl
theorem p108 {t : List UInt8} (h : t.length ≤ 1900) (G : List Ent) : P108 [.dat (.str (ba t))] G = some (oPr G (prOf (progA t))) := by
  unfold P108
  refine pureS_eq rfl (f8_run' h) ?_
  cases progA t <;> rfl
theorem p109 {x : An} {k k' : LK} {z z' : Nat} (h : x.list.length ≤ 1000) (hz : x.list ≠ [] → z = 1 ∧ z' = 1) (G : List Ent) : P109 [anX x k z, anX x k' z'] G = some (oB G true) := by
  have key : ∀ o, (f9at x.why x.n x.m (ba x.data) k z (encI x.list) x.why x.n x.m (ba x.data) k' z' (encI x.list)).ev = o → R109 [anX x k z, anX x k' z'] [] = o := fun o h => by
    rw [Tr.ev_run] at h
    exact h
  unfold P109
  refine pureS_eq (G0 := []) rfl (key _ ?_) rfl
  rw [f9at_eq]
  exact aT (by simp) (aT (by simp) (aT (by simp) (aT (by simp) (gStep (fnS_eq (out := oB []) oB_inj (p122 h hz [])) rfl))))
theorem szW_itoas : ∀ l : List Int, (∀ v ∈ l, fit64 v) → szW (l.map Go.Lib.itoa) ≤ 22 * l.length
  | [], _ => Nat.zero_le _
  | v :: l, h => by
    have ih := szW_itoas l fun u hu => h u (by simp [hu])
    have := itoa_le (h v (by simp))
    rw [List.map_cons, szW_cons, List.length_cons]
    omega
theorem headV_sz {x : An} (hf : fitA x) : szW (headV x) ≤ 300 := by
  obtain ⟨h1, h2, h3, _⟩ := hf
  have e1 := itoa_le h1
  have e2 := itoa_le h2
  have e3 := itoa_le h3
  have e4 := short_le x.data
  unfold headV secN secM secV secT
  split <;> split <;> split <;> split <;> simp [szW, wWhy, wN, wM, wData, wList] <;> omega
theorem line_len {x : An} (hf : fitA x) {s : List UInt8} (h : lineP x = some s) : s.length ≤ 1900 := by
  unfold lineP at h
  split at h
  · rename_i ho
    injection h with h
    obtain ⟨hd, h60⟩ := okA_parts ho
    rw [← J_line hd] at h
    have h1 := J_sz (headV x ++ x.list.map Go.Lib.itoa)
    have h2 := headV_sz hf
    have h3 := szW_itoas x.list hf.2.2.2
    rw [szW_app] at h1
    rw [h] at h1
    omega
  · cases h
attribute [local irreducible] P108 P109
theorem f3_runL {x : An} {k : LK} {z : Nat} (hf : fitA x) (hz : x.list ≠ [] → z = 1) : R103 [anX x k z] [] = some (.dat (.bool true), []) := by
  have key : ∀ o, (f3lt x.why x.n x.m (ba x.data) k z (encI x.list)).ev = o → R103 [anX x k z] [] = o := fun o h => by
    rw [Tr.ev_run] at h
    exact h
  refine key _ ?_
  rw [f3lt_eq, ba_sz]
  have hx : (encI x.list).length = x.list.length := encI_len _
  have e5 := fnS_eq (out := oT []) oT_inj (p105 (G := []))
  by_cases h1 : x.list.length > 100
  · exact aT (by rw [decide_eq_true_eq]; omega) (gStep e5 rfl)
  refine aF (by rw [decide_eq_false_iff_not]; omega) ?_
  by_cases h2 : x.data.length > 200
  · exact aT (by rw [decide_eq_true_eq]; omega) (gStep e5 rfl)
  refine aF (by rw [decide_eq_false_iff_not]; omega) ?_
  have e6 := fnS_eq (out := oLn []) oLn_inj (p106 (k := k) hf hz [])
  have e7 := fnS_eq (out := oLn []) oLn_inj (p107 (k := k) hf hz [])
  refine gStep e6 (gStep e7 (aF (by simp) (aF (by simp) ?_)))
  cases hl : lineP x with
  | none => exact aT rfl (gStep e5 rfl)
  | some s =>
    have e8 := fnS_eq (out := oPr []) oPr_inj (p108 (line_len hf hl) [])
    rw [progA_line hf hl] at e8
    have e9 := fnS_eq (out := oB []) oB_inj (p109 (x := x) (k := k) (k' := if x.list = [] then .nil else .any) (z := z) (z' := if x.list = [] then 0 else 1) (by omega) (fun h => ⟨hz h, if_neg h⟩) [])
    exact aF rfl (gStep e8 (gStep e9 (aT rfl (aT rfl (gStep e5 rfl)))))
end Go.Eng
end

/- Lines as answers: the document's words and numbers, as trees. -/
section
namespace Go.Eng
open Go
set_option maxRecDepth 100000

def HSp (f : Nat) : Nat → List Nat := match f with
  | 23 => hOfS [(2, [0, 4]), (1000002, [0, 2, 3])]
  | 24 => hOfS [(6, [0, 3, 4, 5]), (1000006, [3, 4])]
  | 25 => hOfS [(2, [0, 1, 6]), (1000002, [0, 4, 5])]
  | 10 => hOfS [(6, [0, 2, 4, 6, 7]), (1000006, [0, 2, 4]), (24, [0, 2, 4, 6, 7, 8]), (1000024, [0, 2, 4, 6, 7])]
  | _ => fun _ => []
def oWw (G : List Ent) (p : ByteArray × ByteArray) : AV × List Ent := (.tup [.dat (.str p.1), .dat (.str p.2)], G)
/-! ### Word -/
noncomputable def lp23 : Code := lpOf (codeOf Go.Proofs.Tryd.f23) 0
def inv23 (s : ByteArray) (i : Int) : St := ⟨mkT 0 23 [(0, .dat (.str s)), (4, jn i)], ⟨[], [], 0⟩⟩
noncomputable def rk23 (s : ByteArray) (i : Int) : Tr (Ex × St) := tround TT tNone noLo (HSp 23) lp23 (inv23 s i)
def out23n (a0 : AV) (_ : Unit) : Ex × St := (.exit 0, ⟨mkT 0 23 [(0, a0)], ⟨[], [], 0⟩⟩)
def out23y (a0 : AV) (p : ByteArray × ByteArray) : Ex × St := (.ret, ⟨mkT 0 23 [(0, a0), (2, .dat (.str p.1)), (3, .dat (.str p.2))], ⟨[], [], 0⟩⟩)
noncomputable def lo23 (n : Nat) (st : St) : Tr (Ex × St) := match n with
  | 2 => tlo2 TT tNone.runs (HSp 23) lp23 (out23n (st.tmps.getD 0 .dead)) (out23y (st.tmps.getD 0 .dead)) st
  | _ => .fail
noncomputable def f23t (s : ByteArray) : Tr (AV × List Ent) := tfn TT tNone lo23 Go.Proofs.Tryd.f23 [.dat (.str s)] []
noncomputable def R123 (a : List AV) (G : List Ent) : Option (AV × List Ent) := (tfn TT tNone lo23 Go.Proofs.Tryd.f23 a G).run
noncomputable def P123 := pureS R123
/-! ### Number -/
noncomputable def lp24 : Code := lpOf (codeOf Go.Proofs.Tryd.f24) 0
def inv24 (s : ByteArray) (n fr i : Int) : St := ⟨mkT 0 38 [(0, .dat (.str s)), (3, .dat (.int .u64 n)), (4, jn fr), (5, jn i)], ⟨[], [], 0⟩⟩
noncomputable def rk24 (s : ByteArray) (n fr i : Int) : Tr (Ex × St) := tround TT tNone noLo (HSp 24) lp24 (inv24 s n fr i)
def out24 (a4 : AV) (n : Int) : Ex × St := (.exit 0, ⟨mkT 0 38 [(3, .dat (.int .u64 n)), (4, a4)], ⟨[], [], 0⟩⟩)
noncomputable def lo24 (n : Nat) (st : St) : Tr (Ex × St) := match n with
  | 6 => tlo TT tNone.runs (HSp 24) lp24 (out24 (st.tmps.getD 4 .dead)) st
  | _ => .fail
noncomputable def f24t (s : ByteArray) : Tr (AV × List Ent) := tfn TT tNone lo24 Go.Proofs.Tryd.f24 [.dat (.str s)] []
noncomputable def R124 (a : List AV) (G : List Ent) : Option (AV × List Ent) := (tfn TT tNone lo24 Go.Proofs.Tryd.f24 a G).run
noncomputable def P124 := pureS R124
/-! ### until -/
noncomputable def lp25 : Code := lpOf (codeOf Go.Proofs.Tryd.f25) 0
def inv25 (s w : ByteArray) (i : Int) : St := ⟨mkT 0 35 [(0, .dat (.str s)), (1, .dat (.str w)), (6, jn i)], ⟨[], [], 0⟩⟩
noncomputable def rk25 (s w : ByteArray) (i : Int) : Tr (Ex × St) := tround TT tNone noLo (HSp 25) lp25 (inv25 s w i)
def out25n (a0 : AV) (_ : Unit) : Ex × St := (.exit 0, ⟨mkT 0 35 [(0, a0)], ⟨[], [], 0⟩⟩)
def out25y (a0 : AV) (p : ByteArray × ByteArray) : Ex × St := (.ret, ⟨mkT 0 35 [(0, a0), (4, .dat (.str p.1)), (5, .dat (.str p.2))], ⟨[], [], 0⟩⟩)
noncomputable def lo25 (n : Nat) (st : St) : Tr (Ex × St) := match n with
  | 2 => tlo2 TT tNone.runs (HSp 25) lp25 (out25n (st.tmps.getD 0 .dead)) (out25y (st.tmps.getD 0 .dead)) st
  | _ => .fail
noncomputable def f25t (s w : ByteArray) : Tr (AV × List Ent) := tfn TT tNone lo25 Go.Proofs.Tryd.f25 [.dat (.str s), .dat (.str w)] []
noncomputable def R125 (a : List AV) (G : List Ent) : Option (AV × List Ent) := (tfn TT tNone lo25 Go.Proofs.Tryd.f25 a G).run
noncomputable def P125 := pureS R125
/-! ### Parse -/
noncomputable def P126 := pureS R9
noncomputable def t110 : TOrc := tCons 23 (fun a G => tspec (oWw G) (P123 a G)) (tCons 24 (fun a G => tspec (oI G) (P124 a G)) (tCons 25 (fun a G => tspec (oWw G) (P125 a G)) (tCons 26 (fun a G => tspec (oLg G) (P126 a G)) (tCons 7 (fun a G => tspec (oLn G) (P107 a G)) (tCons 9 (fun a G => tspec (oB G) (P109 a G)) tNone)))))
noncomputable def lpQ : Code := lpOf (codeOf Go.Proofs.Tryd.f10) 0
noncomputable def lpQi : Code := lpOf lpQ 0
/-- the list so far: none, or a row of our own -/
def cR (b : Bool) (q : Row) : AV := if b then .sh false 2 1 0 q.length else .dat (.list .nil 0 [])
def invQ (b : Bool) (s : ByteArray) (why n m : Int) (d : ByteArray) (q : Row) (rest : ByteArray) (i : Int) : St := ⟨mkT 0 118 [(0, .dat (.str s)), (2, .ptr (.loc 0) 0), (4, .ptr (.loc 1) 0), (6, .dat (.str rest)), (7, jn i)], ⟨ob0 :: obA why n m d (cR b q) :: dE b q, [], 0⟩⟩
def invQi (b : Bool) (s : ByteArray) (why n m : Int) (d : ByteArray) (q : Row) (rest : ByteArray) (i k : Int) : St := ⟨mkT 0 118 [(0, .dat (.str s)), (2, .ptr (.loc 0) 0), (4, .ptr (.loc 1) 0), (6, .dat (.str rest)), (7, jn i), (8, jn k)], ⟨ob0 :: obA why n m d (cR b q) :: dE b q, [], 0⟩⟩
noncomputable def rkQin (s : ByteArray) (why n m : Int) (d : ByteArray) (rest : ByteArray) (i k : Int) : Tr (Ex × St) := tround TT t110 noLo (HSp 10) lpQi (invQi false s why n m d [] rest i k)
noncomputable def rkQir (s : ByteArray) (why n m : Int) (d : ByteArray) (q : Row) (rest : ByteArray) (i k : Int) : Tr (Ex × St) := tround TT t110 noLo (HSp 10) lpQi (invQi true s why n m d q rest i k)
def outQin (a0 a7 : AV) (o : Option Ent) (rest : ByteArray) : Ex × St := (.exit 3, ⟨mkT 0 118 [(0, a0), (2, .ptr (.loc 0) 0), (4, .ptr (.loc 1) 0), (6, .dat (.str rest)), (7, a7)], ⟨[ob0, o], [], 0⟩⟩)
def outQir (a0 a7 : AV) (o : Option Ent) (p : ByteArray × Row) : Ex × St := (.exit 3, ⟨mkT 0 118 [(0, a0), (2, .ptr (.loc 0) 0), (4, .ptr (.loc 1) 0), (6, .dat (.str p.1)), (7, a7)], ⟨[ob0, setA o (.sh false 2 1 0 p.2.length), some (.row .excl 1 p.2)], [], 0⟩⟩)
noncomputable def loQi (n : Nat) (st : St) : Tr (Ex × St) := match n with
  | 24 => tlo2 TT t110.runs (HSp 10) lpQi (outQin (st.tmps.getD 0 .dead) (st.tmps.getD 7 .dead) ((tidy (HSp 10 24) st).mem.L.getD 1 none)) (outQir (st.tmps.getD 0 .dead) (st.tmps.getD 7 .dead) ((tidy (HSp 10 24) st).mem.L.getD 1 none)) st
  | _ => .fail
noncomputable def rkQn (s : ByteArray) (why n m : Int) (d : ByteArray) (rest : ByteArray) (i : Int) : Tr (Ex × St) := tround TT t110 loQi (HSp 10) lpQ (invQ false s why n m d [] rest i)
noncomputable def rkQr (s : ByteArray) (why n m : Int) (d : ByteArray) (q : Row) (rest : ByteArray) (i : Int) : Tr (Ex × St) := tround TT t110 loQi (HSp 10) lpQ (invQ true s why n m d q rest i)
def objW (w : AV) (n m : Int) (d : ByteArray) (c : AV) : Option Ent := some (.obj [w, jn n, jn m, .dat (.str d), c])
def whyA (o : Option Ent) : AV := match o with
  | some (.obj (w :: _)) => w
  | _ => .dead
def outQn (a0 w : AV) (p : Int × Int × ByteArray) : Ex × St := (.exit 0, ⟨mkT 0 118 [(0, a0), (2, .ptr (.loc 0) 0), (4, .ptr (.loc 1) 0)], ⟨[ob0, objW w p.1 p.2.1 p.2.2 (.dat (.list .nil 0 []))], [], 0⟩⟩)
def outQr (a0 w : AV) (p : Int × Int × ByteArray × Row) : Ex × St := (.exit 0, ⟨mkT 0 118 [(0, a0), (2, .ptr (.loc 0) 0), (4, .ptr (.loc 1) 0)], ⟨[ob0, objW w p.1 p.2.1 p.2.2.1 (.sh false 2 1 0 p.2.2.2.length), some (.row .excl 1 p.2.2.2)], [], 0⟩⟩)
noncomputable def loQ (n : Nat) (st : St) : Tr (Ex × St) := match n with
  | 6 => tlo2 TT t110.runs (HSp 10) lpQ (outQn (st.tmps.getD 0 .dead) (whyA ((tidy (HSp 10 6) st).mem.L.getD 1 none))) (outQr (st.tmps.getD 0 .dead) (whyA ((tidy (HSp 10 6) st).mem.L.getD 1 none))) st
  | _ => .fail
noncomputable def fQt (s : ByteArray) : Tr (AV × List Ent) := tfn TT t110 loQ Go.Proofs.Tryd.f10 [.dat (.str s)] []
noncomputable def R110 (a : List AV) (G : List Ent) : Option (AV × List Ent) := (tfn TT t110 loQ Go.Proofs.Tryd.f10 a G).run
noncomputable def P110 := pureS R110
/-! ### the law -/
noncomputable def t104 : TOrc := tCons 5 (fun a G => tspec (oT G) (P105 a G)) (tCons 6 (fun a G => tspec (oLn G) (P106 a G)) (tCons 10 (fun a G => tspec (oPr G) (P110 a G)) (tCons 8 (fun a G => tspec (oPr G) (P108 a G)) (tCons 9 (fun a G => tspec (oB G) (P109 a G)) tNone))))
noncomputable def fPt (s : ByteArray) : Tr (AV × List Ent) := tfn TT t104 noLo Go.Proofs.Tryd.f4 [.dat (.str s)] []
noncomputable def R104 (a : List AV) (G : List Ent) : Option (AV × List Ent) := (tfn TT t104 noLo Go.Proofs.Tryd.f4 a G).run
end Go.Eng
end

/- Lines as answers: the document's words and numbers. -/
section
namespace Go.Eng
open Go
set_option maxRecDepth 100000
set_option linter.unusedSimpArgs false

theorem rk23_eq (s : ByteArray) (i : Int) : (rk23 s i).ev =
 (rAsk (decide (i < (((ByteArray.size s) : Nat) : Int)))
 (rAsk (decide ((0 : Int) ≤ i))
 (rGet s[(Int.toNat i)]? fun x1 =>
 (rAsk ((((UInt8.toNat x1) : Nat) : Int) == (32 : Int))
 (rAsk (true && ((decide ((0 : Int) ≤ i)) && (decide (i ≤ (((ByteArray.size s) : Nat) : Int)))))
 (rAsk ((decide ((0 : Int) ≤ (IntKind.wrap IntKind.i64 (i + (1 : Int))))) && ((decide ((IntKind.wrap IntKind.i64 (i + (1 : Int))) ≤ (((ByteArray.size s) : Nat) : Int))) && (decide ((((ByteArray.size s) : Nat) : Int) ≤ (((ByteArray.size s) : Nat) : Int)))))
 (some (Ex.ret, (St.mk (mkT 0 23 [(0, (AV.dat (D.str s))), (2, (AV.dat (D.str (ByteArray.extract s 0 (Int.toNat i))))), (3, (AV.dat (D.str (ByteArray.extract s (Int.toNat (IntKind.wrap IntKind.i64 (i + (1 : Int)))) (Int.toNat (((ByteArray.size s) : Nat) : Int))))))]) (Mem.mk [] [] 0))))
 none
 )
 none
 )
 (some (Ex.norm, (St.mk (mkT 0 23 [(0, (AV.dat (D.str s))), (4, (AV.dat (D.int IntKind.i64 (IntKind.wrap IntKind.i64 (i + (1 : Int))))))]) (Mem.mk [] [] 0))))
 )
 )
 none
 )
 (some ((Ex.exit 0), (St.mk (mkT 0 23 [(0, (AV.dat (D.str s)))]) (Mem.mk [] [] 0))))
 )
  := by kernel_rfl
theorem f23t_eq (s : ByteArray) : (f23t s).ev =
 (rAsk (Option.isSome (loS TT (TOrc.runs tNone) (HSp 23) lp23 (out23n (AV.dat (D.str s))) (St.mk (mkT 0 23 [(0, (AV.dat (D.str s))), (4, (AV.dat (D.int IntKind.i64 (0 : Int))))]) (Mem.mk [] [] 0))))
 (rGet (loS TT (TOrc.runs tNone) (HSp 23) lp23 (out23n (AV.dat (D.str s))) (St.mk (mkT 0 23 [(0, (AV.dat (D.str s))), (4, (AV.dat (D.int IntKind.i64 (0 : Int))))]) (Mem.mk [] [] 0))) fun _ =>
 (some ((AV.tup [(AV.dat (D.str s)), (AV.dat (D.str (ByteArray.mk (List.toArray []))))]), []))
 )
 (rGet (loS TT (TOrc.runs tNone) (HSp 23) lp23 (out23y (AV.dat (D.str s))) (St.mk (mkT 0 23 [(0, (AV.dat (D.str s))), (4, (AV.dat (D.int IntKind.i64 (0 : Int))))]) (Mem.mk [] [] 0))) fun x2 =>
 (some ((AV.tup [(AV.dat (D.str x2.1)), (AV.dat (D.str x2.2))]), []))
 )
 )
  := by kernel_rfl
theorem rk24_eq (s : ByteArray) (n fr i : Int) : (rk24 s n fr i).ev =
 (rAsk (decide (i < (((ByteArray.size s) : Nat) : Int)))
 (rAsk (decide (i < (20 : Int)))
 (rAsk (decide ((0 : Int) ≤ i))
 (rGet s[(Int.toNat i)]? fun x1 =>
 (some (Ex.norm, (St.mk (mkT 0 38 [(0, (AV.dat (D.str s))), (3, (AV.dat (D.int IntKind.u64 (IntKind.wrap IntKind.u64 ((IntKind.wrap IntKind.u64 (n * (10 : Int))) + (IntKind.wrap IntKind.u64 (IntKind.wrap IntKind.u8 ((((UInt8.toNat x1) : Nat) : Int) - (48 : Int))))))))), (4, (AV.dat (D.int IntKind.i64 fr))), (5, (AV.dat (D.int IntKind.i64 (IntKind.wrap IntKind.i64 (i + (1 : Int))))))]) (Mem.mk [] [] 0))))
 )
 none
 )
 (some ((Ex.exit 0), (St.mk (mkT 0 38 [(3, (AV.dat (D.int IntKind.u64 n))), (4, (AV.dat (D.int IntKind.i64 fr)))]) (Mem.mk [] [] 0))))
 )
 (some ((Ex.exit 0), (St.mk (mkT 0 38 [(3, (AV.dat (D.int IntKind.u64 n))), (4, (AV.dat (D.int IntKind.i64 fr)))]) (Mem.mk [] [] 0))))
 )
  := by kernel_rfl
theorem f24t_eq (s : ByteArray) : (f24t s).ev =
 (rAsk (!((ByteArray.toList s) == []))
 (rGet s[0]? fun x1 =>
 (rAsk ((((UInt8.toNat x1) : Nat) : Int) == (45 : Int))
 (rGet (loS TT (TOrc.runs tNone) (HSp 24) lp24 (out24 (AV.dat (D.int IntKind.i64 (1 : Int)))) (St.mk (mkT 0 38 [(0, (AV.dat (D.str s))), (3, (AV.dat (D.int IntKind.u64 (0 : Int)))), (4, (AV.dat (D.int IntKind.i64 (1 : Int)))), (5, (AV.dat (D.int IntKind.i64 (1 : Int))))]) (Mem.mk [] [] 0))) fun x2 =>
 (some ((AV.dat (D.int IntKind.i64 (IntKind.wrap IntKind.i64 (IntKind.wrap IntKind.u64 ((0 : Int) - x2))))), []))
 )
 (rGet (loS TT (TOrc.runs tNone) (HSp 24) lp24 (out24 (AV.dat (D.int IntKind.i64 (0 : Int)))) (St.mk (mkT 0 38 [(0, (AV.dat (D.str s))), (3, (AV.dat (D.int IntKind.u64 (0 : Int)))), (4, (AV.dat (D.int IntKind.i64 (0 : Int)))), (5, (AV.dat (D.int IntKind.i64 (0 : Int))))]) (Mem.mk [] [] 0))) fun x3 =>
 (some ((AV.dat (D.int IntKind.i64 (IntKind.wrap IntKind.i64 x3))), []))
 )
 )
 )
 (rGet (loS TT (TOrc.runs tNone) (HSp 24) lp24 (out24 (AV.dat (D.int IntKind.i64 (0 : Int)))) (St.mk (mkT 0 38 [(0, (AV.dat (D.str s))), (3, (AV.dat (D.int IntKind.u64 (0 : Int)))), (4, (AV.dat (D.int IntKind.i64 (0 : Int)))), (5, (AV.dat (D.int IntKind.i64 (0 : Int))))]) (Mem.mk [] [] 0))) fun x4 =>
 (some ((AV.dat (D.int IntKind.i64 (IntKind.wrap IntKind.i64 x4))), []))
 )
 )
  := by kernel_rfl
theorem rk25_eq (s w : ByteArray) (i : Int) : (rk25 s w i).ev =
 (rAsk (decide ((IntKind.wrap IntKind.i64 (i + (((ByteArray.size w) : Nat) : Int))) ≤ (((ByteArray.size s) : Nat) : Int)))
 (rAsk ((decide ((0 : Int) ≤ i)) && ((decide (i ≤ (IntKind.wrap IntKind.i64 (i + (((ByteArray.size w) : Nat) : Int))))) && (decide ((IntKind.wrap IntKind.i64 (i + (((ByteArray.size w) : Nat) : Int))) ≤ (((ByteArray.size s) : Nat) : Int)))))
 (rAsk ((ByteArray.toList (ByteArray.extract s (Int.toNat i) (Int.toNat (IntKind.wrap IntKind.i64 (i + (((ByteArray.size w) : Nat) : Int)))))) == (ByteArray.toList w))
 (rAsk (true && ((decide ((0 : Int) ≤ i)) && (decide (i ≤ (((ByteArray.size s) : Nat) : Int)))))
 (rAsk ((decide ((0 : Int) ≤ (IntKind.wrap IntKind.i64 (i + (((ByteArray.size w) : Nat) : Int))))) && ((decide ((IntKind.wrap IntKind.i64 (i + (((ByteArray.size w) : Nat) : Int))) ≤ (((ByteArray.size s) : Nat) : Int))) && (decide ((((ByteArray.size s) : Nat) : Int) ≤ (((ByteArray.size s) : Nat) : Int)))))
 (some (Ex.ret, (St.mk (mkT 0 35 [(0, (AV.dat (D.str s))), (4, (AV.dat (D.str (ByteArray.extract s 0 (Int.toNat i))))), (5, (AV.dat (D.str (ByteArray.extract s (Int.toNat (IntKind.wrap IntKind.i64 (i + (((ByteArray.size w) : Nat) : Int)))) (Int.toNat (((ByteArray.size s) : Nat) : Int))))))]) (Mem.mk [] [] 0))))
 none
 )
 none
 )
 (some (Ex.norm, (St.mk (mkT 0 35 [(0, (AV.dat (D.str s))), (1, (AV.dat (D.str w))), (6, (AV.dat (D.int IntKind.i64 (IntKind.wrap IntKind.i64 (i + (1 : Int))))))]) (Mem.mk [] [] 0))))
 )
 none
 )
 (some ((Ex.exit 0), (St.mk (mkT 0 35 [(0, (AV.dat (D.str s)))]) (Mem.mk [] [] 0))))
 )
  := by kernel_rfl
theorem f25t_eq (s w : ByteArray) : (f25t s w).ev =
 (rAsk (Option.isSome (loS TT (TOrc.runs tNone) (HSp 25) lp25 (out25n (AV.dat (D.str s))) (St.mk (mkT 0 35 [(0, (AV.dat (D.str s))), (1, (AV.dat (D.str w))), (6, (AV.dat (D.int IntKind.i64 (0 : Int))))]) (Mem.mk [] [] 0))))
 (rGet (loS TT (TOrc.runs tNone) (HSp 25) lp25 (out25n (AV.dat (D.str s))) (St.mk (mkT 0 35 [(0, (AV.dat (D.str s))), (1, (AV.dat (D.str w))), (6, (AV.dat (D.int IntKind.i64 (0 : Int))))]) (Mem.mk [] [] 0))) fun _ =>
 (some ((AV.tup [(AV.dat (D.str s)), (AV.dat (D.str (ByteArray.mk (List.toArray []))))]), []))
 )
 (rGet (loS TT (TOrc.runs tNone) (HSp 25) lp25 (out25y (AV.dat (D.str s))) (St.mk (mkT 0 35 [(0, (AV.dat (D.str s))), (1, (AV.dat (D.str w))), (6, (AV.dat (D.int IntKind.i64 (0 : Int))))]) (Mem.mk [] [] 0))) fun x2 =>
 (some ((AV.tup [(AV.dat (D.str x2.1)), (AV.dat (D.str x2.2))]), []))
 )
 )
  := by kernel_rfl
theorem ba_ext (l : List UInt8) (a b : Nat) : (ba l).extract a b = ba ((l.drop a).take (b - a)) := by
  rw [ba_of ((ba l).extract a b), ByteArray.data_extract, Array.toList_extract]
  rfl
theorem ba_head (p r : List UInt8) : (ba (p ++ r)).extract 0 (Int.toNat ((p.length : Nat) : Int)) = ba p := by
  rw [ba_ext, Int.toNat_natCast, List.drop_zero, Nat.sub_zero, List.take_left]
theorem ba_tail (p r : List UInt8) (n : Nat) (h : n ≤ r.length) : (ba (p ++ r)).extract (Int.toNat ((p.length + n : Nat) : Int)) (Int.toNat (((ba (p ++ r)).size : Nat) : Int)) = ba (r.drop n) := by
  rw [ba_ext, Int.toNat_natCast, Int.toNat_natCast, ba_sz]
  congr 1
  rw [List.drop_append, List.take_of_length_le (by simp; omega), List.drop_of_length_le (by omega)]
  simp
theorem out23n_inj {a0 : AV} : ∀ x y, out23n a0 x = out23n a0 y → x = y := fun _ _ _ => rfl
theorem out23y_inj {a0 : AV} : ∀ x y, out23y a0 x = out23y a0 y → x = y := by
  rintro ⟨a, b⟩ ⟨c, d⟩ h
  simp [out23y, mkT] at h
  obtain ⟨rfl, rfl⟩ := h
  rfl
theorem out23_no {a0 : AV} {y : ByteArray × ByteArray} : ∀ x, out23n a0 x ≠ out23y a0 y := fun x h => by simp [out23n, out23y] at h
theorem out24_inj {a0 : AV} : ∀ x y, out24 a0 x = out24 a0 y → x = y := by
  intro x y h
  simp [out24, mkT] at h
  exact h
theorem out25n_inj {a0 : AV} : ∀ x y, out25n a0 x = out25n a0 y → x = y := fun _ _ _ => rfl
theorem out25y_inj {a0 : AV} : ∀ x y, out25y a0 x = out25y a0 y → x = y := by
  rintro ⟨a, b⟩ ⟨c, d⟩ h
  simp [out25y, mkT] at h
  obtain ⟨rfl, rfl⟩ := h
  rfl
theorem out25_no {a0 : AV} {y : ByteArray × ByteArray} : ∀ x, out25n a0 x ≠ out25y a0 y := fun x h => by simp [out25n, out25y] at h
theorem oWw_inj {G : List Ent} : ∀ x y, oWw G x = oWw G y → x = y := by
  rintro ⟨a, b⟩ ⟨c, d⟩ h
  simp [oWw] at h
  obtain ⟨rfl, rfl⟩ := h
  rfl
theorem oI_injW {G : List Ent} : ∀ x y, oI G x = oI G y → x = y := by intro x y h; simpa [oI, jn] using h
attribute [local irreducible] fnS loS tround
/-! ### Word -/
theorem go23 {s : ByteArray} {i : Int} {o} (h : (rk23 s i).ev = o) : (tround TT tNone noLo (HSp 23) lp23 (inv23 s i)).run = o := by
  rw [Tr.ev_run] at h
  exact h
theorem cut1_no (b : UInt8) : ∀ l : List UInt8, (cut1 b l).2.2 = false → cut1 b l = (l, [], false)
  | [], _ => rfl
  | c :: l, h => by
    unfold cut1 at h ⊢
    split at h
    · cases h
    · rename_i hc
      rw [if_neg hc, cut1_no b l h]
def toW (t p : List UInt8) (c : List UInt8 × List UInt8 × Bool) (st : St) : Prop :=
  if c.2.2 = true then LoopTo TT tNone.runs (HSp 23) lp23 st (out23y (.dat (.str (ba t))) (ba (p ++ c.1), ba c.2.1))
  else LoopTo TT tNone.runs (HSp 23) lp23 st (out23n (.dat (.str (ba t))) ())
theorem loop23 : ∀ (l p : List UInt8), (p ++ l).length ≤ 4000 → toW (p ++ l) p (cut1 32 l) (inv23 (ba (p ++ l)) p.length)
  | [], p, _ => by
    unfold toW
    rw [cut1, if_neg (by simp)]
    refine LoopTo.last (orc := tNone) (lo := noLo) (fun _ _ _ _ h => h) (LoOk2.no _) (go23 ?_) (by simp [out23n])
    rw [rk23_eq, ba_sz]
    exact aF (by rw [decide_eq_false_iff_not, List.append_nil]; omega) rfl
  | c :: l, p, h => by
    have hlen : (p ++ c :: l).length = p.length + l.length + 1 := by rw [List.length_append, List.length_cons]; omega
    have a0 : decide ((0 : Int) ≤ ((p.length : Nat) : Int)) = true := by rw [decide_eq_true_eq]; omega
    have a1 : decide (((p.length : Nat) : Int) < (((ba (p ++ c :: l)).size : Nat) : Int)) = true := by rw [ba_sz, decide_eq_true_eq]; omega
    by_cases hc : c = 32
    · subst hc
      unfold toW
      rw [cut1, if_pos rfl, if_pos rfl]
      refine LoopTo.last (orc := tNone) (lo := noLo) (fun _ _ _ _ h => h) (LoOk2.no _) (go23 ?_) (by simp [out23y])
      rw [rk23_eq, w64 (n := p.length + 1) (by omega) (x := ((p.length : Nat) : Int) + 1) (by omega), ba_head, ba_tail p (32 :: l) 1 (by simp), ba_sz]
      rw [ba_sz] at a1
      refine aT a1 (aT a0 (gStep ba_mid (aT rfl (aT ?_ (aT ?_ ?_)))))
      · simp only [Bool.true_and, Bool.and_eq_true, decide_eq_true_eq]; omega
      · simp only [Bool.and_eq_true, decide_eq_true_eq]; omega
      · rw [List.append_nil]
        rfl
    · have step : (tround TT tNone noLo (HSp 23) lp23 (inv23 (ba (p ++ c :: l)) p.length)).run = some (.norm, inv23 (ba (p ++ c :: l)) ((p.length + 1 : Nat) : Int)) := by
        refine go23 ?_
        rw [rk23_eq, w64 (n := p.length + 1) (by omega) (x := ((p.length : Nat) : Int) + 1) (by omega)]
        refine aT a1 (aT a0 (gStep ba_mid (aF ?_ rfl)))
        rw [beq_eq_false_iff_ne]
        intro e
        have : c.toNat = 32 := by omega
        exact hc (UInt8.toNat_inj.1 this)
      have ih := loop23 l (p ++ [c]) (by simpa using h)
      rw [show p ++ [c] ++ l = p ++ c :: l by simp, show List.length (p ++ [c]) = p.length + 1 by simp] at ih
      unfold toW at ih ⊢
      rw [cut1, if_neg hc]
      simp only
      split at ih
      · rename_i hb
        rw [if_pos hb, show p ++ c :: (cut1 32 l).1 = p ++ [c] ++ (cut1 32 l).1 by simp]
        exact LoopTo.more (orc := tNone) (lo := noLo) (fun _ _ _ _ h => h) (LoOk2.no _) step ih
      · rename_i hb
        rw [if_neg hb]
        exact LoopTo.more (orc := tNone) (lo := noLo) (fun _ _ _ _ h => h) (LoOk2.no _) step ih
def wwOf (p : List UInt8 × List UInt8) : ByteArray × ByteArray := (ba p.1, ba p.2)
theorem p123 {s : List UInt8} (h : s.length ≤ 4000) (G : List Ent) : P123 [.dat (.str (ba s))] G = some (oWw G (wwOf (wordR s))) := by
  have key : ∀ o, (f23t (ba s)).ev = o → R123 [.dat (.str (ba s))] [] = o := fun o h => by
    rw [Tr.ev_run] at h
    exact h
  unfold P123
  refine pureS_eq (G0 := []) rfl (key _ ?_) rfl
  rw [f23t_eq]
  have hl := loop23 s [] h
  rw [List.nil_append] at hl
  unfold toW at hl
  split at hl
  · exact aF (loS_no (o1 := out23n (.dat (.str (ba s)))) hl out23_no) (gStep (loS_eq (out := out23y (.dat (.str (ba s)))) out23y_inj hl) rfl)
  · rename_i hb
    have e := cut1_no 32 s (by simpa using hb)
    refine aT (loS_yes (o1 := out23n (.dat (.str (ba s)))) out23n_inj hl) (gStep (loS_eq (out := out23n (.dat (.str (ba s)))) out23n_inj hl) ?_)
    unfold wordR
    rw [e]
    rfl
/-! ### Number -/
theorem go24 {s : ByteArray} {n fr i : Int} {o} (h : (rk24 s n fr i).ev = o) : (tround TT tNone noLo (HSp 24) lp24 (inv24 s n fr i)).run = o := by
  rw [Tr.ev_run] at h
  exact h
theorem numG_zero (n : Nat) (l : List UInt8) : numG 0 n l = n := by cases l <;> rfl
theorem numG_lt : ∀ (k n : Nat) (l : List UInt8), n < 18446744073709551616 → numG k n l < 18446744073709551616
  | _, _, [], h => by unfold numG; exact h
  | 0, _, _ :: _, h => by unfold numG; exact h
  | k + 1, n, d :: l, _ => by
    unfold numG
    exact numG_lt k _ l (Nat.mod_lt _ (by omega))
theorem dig_wrap (n : Nat) (c : UInt8) : IntKind.wrap IntKind.u64 ((IntKind.wrap IntKind.u64 ((n : Int) * (10 : Int))) + (IntKind.wrap IntKind.u64 (IntKind.wrap IntKind.u8 ((((UInt8.toNat c) : Nat) : Int) - (48 : Int))))) = (((n * 10 % 18446744073709551616 + (c.toNat + 208) % 256) % 18446744073709551616 : Nat) : Int) := by
  have hc := c.toNat_lt
  have e : IntKind.wrap .u8 (((c.toNat : Nat) : Int) - 48) = (((c.toNat + 208) % 256 : Nat) : Int) := by
    unfold IntKind.wrap
    simp [IntKind.bits, IntKind.signed]
    omega
  rw [e, wU64, wU64, wU64]
  omega
theorem loop24 {fr : Int} : ∀ (l p : List UInt8) (n : Nat), LoopTo TT tNone.runs (HSp 24) lp24 (inv24 (ba (p ++ l)) n fr p.length) (out24 (jn fr) ((numG (20 - p.length) n l : Nat) : Int))
  | [], p, n => by
    refine LoopTo.last (orc := tNone) (lo := noLo) (fun _ _ _ _ h => h) (LoOk2.no _) (go24 ?_) (by simp [out24])
    rw [rk24_eq, ba_sz]
    unfold numG
    exact aF (by rw [decide_eq_false_iff_not, List.append_nil]; omega) rfl
  | c :: l, p, n => by
    have hlen : (p ++ c :: l).length = p.length + l.length + 1 := by rw [List.length_append, List.length_cons]; omega
    have a0 : decide ((0 : Int) ≤ ((p.length : Nat) : Int)) = true := by rw [decide_eq_true_eq]; omega
    have a1 : decide (((p.length : Nat) : Int) < (((ba (p ++ c :: l)).size : Nat) : Int)) = true := by rw [ba_sz, decide_eq_true_eq]; omega
    by_cases h20 : p.length < 20
    · have step : (tround TT tNone noLo (HSp 24) lp24 (inv24 (ba (p ++ c :: l)) n fr p.length)).run = some (.norm, inv24 (ba (p ++ c :: l)) ((((n * 10 % 18446744073709551616 + (c.toNat + 208) % 256) % 18446744073709551616 : Nat)) : Int) fr ((p.length + 1 : Nat) : Int)) := by
        refine go24 ?_
        rw [rk24_eq, w64 (n := p.length + 1) (by omega) (x := ((p.length : Nat) : Int) + 1) (by omega)]
        refine aT a1 (aT (by rw [decide_eq_true_eq]; omega) (aT a0 (gStep ba_mid ?_)))
        rw [dig_wrap]
        rfl
      have ih := loop24 (fr := fr) l (p ++ [c]) ((n * 10 % 18446744073709551616 + (c.toNat + 208) % 256) % 18446744073709551616)
      rw [show p ++ [c] ++ l = p ++ c :: l by simp, show List.length (p ++ [c]) = p.length + 1 by simp] at ih
      rw [show 20 - p.length = (20 - (p.length + 1)) + 1 by omega, numG]
      exact LoopTo.more (orc := tNone) (lo := noLo) (fun _ _ _ _ h => h) (LoOk2.no _) step ih
    · rw [show 20 - p.length = 0 by omega, numG_zero]
      refine LoopTo.last (orc := tNone) (lo := noLo) (fun _ _ _ _ h => h) (LoOk2.no _) (go24 ?_) (by simp [out24])
      rw [rk24_eq]
      exact aT a1 (aF (by rw [decide_eq_false_iff_not]; omega) rfl)
theorem p124 (s : List UInt8) (G : List Ent) : P124 [.dat (.str (ba s))] G = some (oI G (numR s)) := by
  have key : ∀ o, (f24t (ba s)).ev = o → R124 [.dat (.str (ba s))] [] = o := fun o h => by
    rw [Tr.ev_run] at h
    exact h
  unfold P124
  refine pureS_eq (G0 := []) rfl (key _ ?_) rfl
  rw [f24t_eq, ba_list]
  have hl := loop24 (fr := 0) s [] 0
  rw [List.nil_append] at hl
  cases s with
  | nil => exact aF rfl (gStep (loS_eq (out := out24 (jn 0)) out24_inj hl) rfl)
  | cons c r =>
    refine aT rfl (gStep (x := c) (ba_at (i := 0) (by simp)) ?_)
    unfold numR
    simp only
    by_cases hc : c = 45
    · subst hc
      have hl1 := loop24 (fr := 1) r [45] 0
      rw [if_pos rfl]
      refine aT rfl (gStep (loS_eq (out := out24 (jn 1)) out24_inj hl1) ?_)
      have hlt := numG_lt 19 0 r (by omega)
      have e : IntKind.wrap IntKind.u64 ((0 : Int) - ((numG (20 - [(45 : UInt8)].length) 0 r : Nat) : Int)) = (((18446744073709551616 - numG 19 0 r) % 18446744073709551616 : Nat) : Int) := by
        rw [wU64]
        show ((0 : Int) - ((numG 19 0 r : Nat) : Int)) % _ = _
        omega
      rw [e]
      rfl
    · rw [if_neg hc]
      refine aF ?_ (gStep (loS_eq (out := out24 (jn 0)) out24_inj hl) rfl)
      rw [beq_eq_false_iff_ne]
      intro e
      have : c.toNat = 45 := by omega
      exact hc (UInt8.toNat_inj.1 this)
/-! ### until -/
theorem go25 {s w : ByteArray} {i : Int} {o} (h : (rk25 s w i).ev = o) : (tround TT tNone noLo (HSp 25) lp25 (inv25 s w i)).run = o := by
  rw [Tr.ev_run] at h
  exact h
def hasU (w : List UInt8) : List UInt8 → Bool
  | [] => false
  | c :: r => w.isPrefixOf (c :: r) || hasU w r
theorem until_not (w : List UInt8) : ∀ l : List UInt8, hasU w l = false → untilL w l = (l, [])
  | [], _ => rfl
  | c :: r, h => by
    unfold hasU at h
    rw [Bool.or_eq_false_iff] at h
    unfold untilL
    rw [h.1, until_not w r h.2]
    rfl
theorem pre_take (w l : List UInt8) : w.isPrefixOf l = (l.take w.length == w) := by
  rw [Bool.eq_iff_iff, List.isPrefixOf_iff_prefix, beq_iff_eq, List.prefix_iff_eq_take]
  exact eq_comm
theorem has_short (w : List UInt8) : ∀ l : List UInt8, l.length < w.length → hasU w l = false
  | [], _ => rfl
  | c :: r, h => by
    rw [List.length_cons] at h
    unfold hasU
    rw [has_short w r (by omega), Bool.or_false, pre_take, beq_eq_false_iff_ne]
    intro e
    have := congrArg List.length e
    rw [List.length_take, List.length_cons] at this
    omega
def toU (t p w l : List UInt8) (st : St) : Prop :=
  if hasU w l = true then LoopTo TT tNone.runs (HSp 25) lp25 st (out25y (.dat (.str (ba t))) (ba (p ++ (untilL w l).1), ba (untilL w l).2))
  else LoopTo TT tNone.runs (HSp 25) lp25 st (out25n (.dat (.str (ba t))) ())
theorem round25 {w : List UInt8} (hw : w ≠ []) (hw2 : w.length ≤ 100) (l p : List UInt8) (h : (p ++ l).length ≤ 4000)
    (hi : ∀ c r, l = c :: r → ∀ p : List UInt8, (p ++ r).length ≤ 4000 → toU (p ++ r) p w r (inv25 (ba (p ++ r)) (ba w) p.length)) : toU (p ++ l) p w l (inv25 (ba (p ++ l)) (ba w) p.length) := by
  have h0 : 0 < w.length := List.length_pos_iff.2 hw
  have hlen : (p ++ l).length = p.length + l.length := List.length_append
  have ew : IntKind.wrap IntKind.i64 (((p.length : Nat) : Int) + ((w.length : Nat) : Int)) = ((p.length + w.length : Nat) : Int) := w64 (by omega) (by omega)
  by_cases hs : l.length < w.length
  · unfold toU
    rw [has_short w l hs, if_neg (by simp)]
    refine LoopTo.last (orc := tNone) (lo := noLo) (fun _ _ _ _ h => h) (LoOk2.no _) (go25 ?_) (by simp [out25n])
    rw [rk25_eq, ba_sz, ba_sz, ew]
    exact aF (by rw [decide_eq_false_iff_not]; omega) rfl
  · have a1 : decide (((p.length + w.length : Nat) : Int) ≤ (((p ++ l).length : Nat) : Int)) = true := by rw [decide_eq_true_eq]; omega
    have a2 : ((decide ((0 : Int) ≤ ((p.length : Nat) : Int))) && ((decide (((p.length : Nat) : Int) ≤ ((p.length + w.length : Nat) : Int))) && (decide (((p.length + w.length : Nat) : Int) ≤ (((p ++ l).length : Nat) : Int))))) = true := by
      simp only [Bool.and_eq_true, decide_eq_true_eq]; omega
    have ex : (ByteArray.toList (ByteArray.extract (ba (p ++ l)) (Int.toNat ((p.length : Nat) : Int)) (Int.toNat ((p.length + w.length : Nat) : Int)))) = l.take w.length := by
      rw [ba_ext, ba_list, Int.toNat_natCast, Int.toNat_natCast, List.drop_left, Nat.add_sub_cancel_left]
    cases l with
    | nil => exact absurd (show ([] : List UInt8).length < w.length from h0) hs
    | cons c r =>
      by_cases hp : w.isPrefixOf (c :: r) = true
      · have q := hp
        rw [pre_take] at q
        unfold toU hasU untilL
        rw [hp, Bool.true_or, if_pos rfl, if_pos rfl]
        refine LoopTo.last (orc := tNone) (lo := noLo) (fun _ _ _ _ h => h) (LoOk2.no _) (go25 ?_) (by simp [out25y])
        rw [rk25_eq, ba_sz w, ew, ex, ba_head, ba_tail p (c :: r) w.length (by omega), ba_list, ba_sz]
        refine aT a1 (aT a2 (aT q (aT ?_ (aT ?_ ?_))))
        · simp only [Bool.true_and, Bool.and_eq_true, decide_eq_true_eq]; omega
        · simp only [Bool.and_eq_true, decide_eq_true_eq]; omega
        · rw [List.append_nil]
      · rw [Bool.not_eq_true] at hp
        have q := hp
        rw [pre_take] at q
        rw [List.length_cons] at hlen
        have step : (tround TT tNone noLo (HSp 25) lp25 (inv25 (ba (p ++ c :: r)) (ba w) p.length)).run = some (.norm, inv25 (ba (p ++ c :: r)) (ba w) ((p.length + 1 : Nat) : Int)) := by
          refine go25 ?_
          rw [rk25_eq, w64 (n := p.length + 1) (by omega) (x := ((p.length : Nat) : Int) + 1) (by omega), ba_sz w, ew, ex, ba_list, ba_sz]
          exact aT a1 (aT a2 (aF q rfl))
        have ih := hi c r rfl (p ++ [c]) (by simpa using h)
        rw [show p ++ [c] ++ r = p ++ c :: r by simp, show List.length (p ++ [c]) = p.length + 1 by simp] at ih
        unfold toU at ih ⊢
        unfold hasU untilL
        simp only [hp, Bool.false_or, Bool.false_eq_true, if_false]
        split at ih
        · rename_i hb
          rw [if_pos hb, show p ++ c :: (untilL w r).1 = p ++ [c] ++ (untilL w r).1 by simp]
          exact LoopTo.more (orc := tNone) (lo := noLo) (fun _ _ _ _ h => h) (LoOk2.no _) step ih
        · rename_i hb
          rw [if_neg hb]
          exact LoopTo.more (orc := tNone) (lo := noLo) (fun _ _ _ _ h => h) (LoOk2.no _) step ih
theorem loop25 {w : List UInt8} (hw : w ≠ []) (hw2 : w.length ≤ 100) : ∀ (l p : List UInt8), (p ++ l).length ≤ 4000 → toU (p ++ l) p w l (inv25 (ba (p ++ l)) (ba w) p.length)
  | [], p, h => round25 hw hw2 [] p h (fun c r e => by cases e)
  | c :: r, p, h => round25 hw hw2 (c :: r) p h (fun c' r' e p' h' => by cases e; exact loop25 hw hw2 r p' h')
theorem p125 {s : List UInt8} (h : s.length ≤ 4000) (G : List Ent) : P125 [.dat (.str (ba s)), .dat (.str (ByteArray.mk (List.toArray [32, 108, 105, 115, 116, 32])))] G = some (oWw G (wwOf (untilL sepL s))) := by
  show P125 [.dat (.str (ba s)), .dat (.str (ba sepL))] G = _
  have key : ∀ o, (f25t (ba s) (ba sepL)).ev = o → R125 [.dat (.str (ba s)), .dat (.str (ba sepL))] [] = o := fun o h => by
    rw [Tr.ev_run] at h
    exact h
  unfold P125
  refine pureS_eq (G0 := []) rfl (key _ ?_) rfl
  rw [f25t_eq]
  have hl := loop25 (w := sepL) (by decide) (by decide) s [] h
  rw [List.nil_append] at hl
  unfold toU at hl
  split at hl
  · exact aF (loS_no (o1 := out25n (.dat (.str (ba s)))) hl out25_no) (gStep (loS_eq (out := out25y (.dat (.str (ba s)))) out25y_inj hl) rfl)
  · rename_i hb
    have e := until_not sepL s (by simpa using hb)
    refine aT (loS_yes (o1 := out25n (.dat (.str (ba s)))) out25n_inj hl) (gStep (loS_eq (out := out25n (.dat (.str (ba s)))) out25n_inj hl) ?_)
    rw [e]
    rfl
end Go.Eng
end

/- Lines as answers: the loops of the document's Parse. -/
section
namespace Go.Eng
open Go
set_option maxRecDepth 100000
set_option linter.unusedSimpArgs false

theorem rkQin_eq (s : ByteArray) (why n m : Int) (d : ByteArray) (rest : ByteArray) (i k : Int) : (rkQin s why n m d rest i k).ev =
 (rAsk (decide (k < (61 : Int)))
 (rAsk (!((ByteArray.toList rest) == []))
 (rGet (fnS (fun (p : ByteArray × ByteArray) => ((AV.tup [(AV.dat (D.str p.1)), (AV.dat (D.str p.2))]), [])) (P123 [(AV.dat (D.str rest))] [])) fun x1 =>
 (rGet (fnS (fun (n : Int) => ((AV.dat (D.int IntKind.i64 n)), [])) (P124 [(AV.dat (D.str x1.1))] [])) fun x2 =>
 (some (Ex.norm, (St.mk (mkT 0 118 [(0, (AV.dat (D.str s))), (2, (AV.ptr (Ref.loc 0) 0)), (4, (AV.ptr (Ref.loc 1) 0)), (6, (AV.dat (D.str x1.2))), (7, (AV.dat (D.int IntKind.i64 i))), (8, (AV.dat (D.int IntKind.i64 (IntKind.wrap IntKind.i64 (k + (1 : Int))))))]) (Mem.mk [(Option.some (Ent.obj [(AV.dat (D.int IntKind.i64 (0 : Int))), (AV.dat (D.int IntKind.i64 (0 : Int))), (AV.dat (D.int IntKind.i64 (0 : Int))), (AV.dat (D.str (ByteArray.mk (List.toArray [])))), (AV.dat (D.list LK.nil 0 ([] : Row)))])), (Option.some (Ent.obj [(AV.dat (D.int IntKind.i64 why)), (AV.dat (D.int IntKind.i64 n)), (AV.dat (D.int IntKind.i64 m)), (AV.dat (D.str d)), (AV.sh false 2 1 0 1)])), (Option.some (Ent.row Mode.excl 1 [[(D.int IntKind.i64 x2)]]))] [] 0))))
 )
 )
 (some ((Ex.exit 3), (St.mk (mkT 0 118 [(0, (AV.dat (D.str s))), (2, (AV.ptr (Ref.loc 0) 0)), (4, (AV.ptr (Ref.loc 1) 0)), (6, (AV.dat (D.str rest))), (7, (AV.dat (D.int IntKind.i64 i)))]) (Mem.mk [(Option.some (Ent.obj [(AV.dat (D.int IntKind.i64 (0 : Int))), (AV.dat (D.int IntKind.i64 (0 : Int))), (AV.dat (D.int IntKind.i64 (0 : Int))), (AV.dat (D.str (ByteArray.mk (List.toArray [])))), (AV.dat (D.list LK.nil 0 ([] : Row)))])), (Option.some (Ent.obj [(AV.dat (D.int IntKind.i64 why)), (AV.dat (D.int IntKind.i64 n)), (AV.dat (D.int IntKind.i64 m)), (AV.dat (D.str d)), (AV.dat (D.list LK.nil 0 ([] : Row)))]))] [] 0))))
 )
 (some ((Ex.exit 3), (St.mk (mkT 0 118 [(0, (AV.dat (D.str s))), (2, (AV.ptr (Ref.loc 0) 0)), (4, (AV.ptr (Ref.loc 1) 0)), (6, (AV.dat (D.str rest))), (7, (AV.dat (D.int IntKind.i64 i)))]) (Mem.mk [(Option.some (Ent.obj [(AV.dat (D.int IntKind.i64 (0 : Int))), (AV.dat (D.int IntKind.i64 (0 : Int))), (AV.dat (D.int IntKind.i64 (0 : Int))), (AV.dat (D.str (ByteArray.mk (List.toArray [])))), (AV.dat (D.list LK.nil 0 ([] : Row)))])), (Option.some (Ent.obj [(AV.dat (D.int IntKind.i64 why)), (AV.dat (D.int IntKind.i64 n)), (AV.dat (D.int IntKind.i64 m)), (AV.dat (D.str d)), (AV.dat (D.list LK.nil 0 ([] : Row)))]))] [] 0))))
 )
  := by kernel_rfl
theorem rkQir_eq (s : ByteArray) (why n m : Int) (d : ByteArray) (q : Row) (rest : ByteArray) (i k : Int) : (rkQir s why n m d q rest i k).ev =
 (rAsk (decide (k < (61 : Int)))
 (rAsk (!((ByteArray.toList rest) == []))
 (rGet (fnS (fun (p : ByteArray × ByteArray) => ((AV.tup [(AV.dat (D.str p.1)), (AV.dat (D.str p.2))]), [])) (P123 [(AV.dat (D.str rest))] [])) fun x1 =>
 (rGet (fnS (fun (n : Int) => ((AV.dat (D.int IntKind.i64 n)), [])) (P124 [(AV.dat (D.str x1.1))] [])) fun x2 =>
 (rAsk ((decide ((0 + (List.length q)) ≤ (List.length q))) && (fits (TI.mk (TK.int IntKind.i64) 1 8 [(AV.dat (D.int IntKind.i64 (0 : Int)))] true) ((List.length q) + 1)))
 (rAsk (true && (decide ((List.length q) = (List.length q))))
 (some (Ex.norm, (St.mk (mkT 0 118 [(0, (AV.dat (D.str s))), (2, (AV.ptr (Ref.loc 0) 0)), (4, (AV.ptr (Ref.loc 1) 0)), (6, (AV.dat (D.str x1.2))), (7, (AV.dat (D.int IntKind.i64 i))), (8, (AV.dat (D.int IntKind.i64 (IntKind.wrap IntKind.i64 (k + (1 : Int))))))]) (Mem.mk [(Option.some (Ent.obj [(AV.dat (D.int IntKind.i64 (0 : Int))), (AV.dat (D.int IntKind.i64 (0 : Int))), (AV.dat (D.int IntKind.i64 (0 : Int))), (AV.dat (D.str (ByteArray.mk (List.toArray [])))), (AV.dat (D.list LK.nil 0 ([] : Row)))])), (Option.some (Ent.obj [(AV.dat (D.int IntKind.i64 why)), (AV.dat (D.int IntKind.i64 n)), (AV.dat (D.int IntKind.i64 m)), (AV.dat (D.str d)), (AV.sh false 2 1 0 ((List.length q) + 1))])), (Option.some (Ent.row Mode.excl 1 (q ++ [[(D.int IntKind.i64 x2)]])))] [] 0))))
 none
 )
 none
 )
 )
 )
 (some ((Ex.exit 3), (St.mk (mkT 0 118 [(0, (AV.dat (D.str s))), (2, (AV.ptr (Ref.loc 0) 0)), (4, (AV.ptr (Ref.loc 1) 0)), (6, (AV.dat (D.str rest))), (7, (AV.dat (D.int IntKind.i64 i)))]) (Mem.mk [(Option.some (Ent.obj [(AV.dat (D.int IntKind.i64 (0 : Int))), (AV.dat (D.int IntKind.i64 (0 : Int))), (AV.dat (D.int IntKind.i64 (0 : Int))), (AV.dat (D.str (ByteArray.mk (List.toArray [])))), (AV.dat (D.list LK.nil 0 ([] : Row)))])), (Option.some (Ent.obj [(AV.dat (D.int IntKind.i64 why)), (AV.dat (D.int IntKind.i64 n)), (AV.dat (D.int IntKind.i64 m)), (AV.dat (D.str d)), (AV.sh false 2 1 0 (List.length q))])), (Option.some (Ent.row Mode.excl 1 q))] [] 0))))
 )
 (some ((Ex.exit 3), (St.mk (mkT 0 118 [(0, (AV.dat (D.str s))), (2, (AV.ptr (Ref.loc 0) 0)), (4, (AV.ptr (Ref.loc 1) 0)), (6, (AV.dat (D.str rest))), (7, (AV.dat (D.int IntKind.i64 i)))]) (Mem.mk [(Option.some (Ent.obj [(AV.dat (D.int IntKind.i64 (0 : Int))), (AV.dat (D.int IntKind.i64 (0 : Int))), (AV.dat (D.int IntKind.i64 (0 : Int))), (AV.dat (D.str (ByteArray.mk (List.toArray [])))), (AV.dat (D.list LK.nil 0 ([] : Row)))])), (Option.some (Ent.obj [(AV.dat (D.int IntKind.i64 why)), (AV.dat (D.int IntKind.i64 n)), (AV.dat (D.int IntKind.i64 m)), (AV.dat (D.str d)), (AV.sh false 2 1 0 (List.length q))])), (Option.some (Ent.row Mode.excl 1 q))] [] 0))))
 )
  := by kernel_rfl
theorem rkQn_eq (s : ByteArray) (why n m : Int) (d : ByteArray) (rest : ByteArray) (i : Int) : (rkQn s why n m d rest i).ev =
 (rAsk (decide (i < (4 : Int)))
 (rAsk (!((ByteArray.toList rest) == []))
 (rGet (fnS (fun (p : ByteArray × ByteArray) => ((AV.tup [(AV.dat (D.str p.1)), (AV.dat (D.str p.2))]), [])) (P123 [(AV.dat (D.str rest))] [])) fun x1 =>
 (rAsk ((ByteArray.toList x1.1) == [110])
 (rGet (fnS (fun (p : ByteArray × ByteArray) => ((AV.tup [(AV.dat (D.str p.1)), (AV.dat (D.str p.2))]), [])) (P123 [(AV.dat (D.str x1.2))] [])) fun x2 =>
 (rGet (fnS (fun (n : Int) => ((AV.dat (D.int IntKind.i64 n)), [])) (P124 [(AV.dat (D.str x2.1))] [])) fun x3 =>
 (some (Ex.norm, (St.mk (mkT 0 118 [(0, (AV.dat (D.str s))), (2, (AV.ptr (Ref.loc 0) 0)), (4, (AV.ptr (Ref.loc 1) 0)), (6, (AV.dat (D.str x2.2))), (7, (AV.dat (D.int IntKind.i64 (IntKind.wrap IntKind.i64 (i + (1 : Int))))))]) (Mem.mk [(Option.some (Ent.obj [(AV.dat (D.int IntKind.i64 (0 : Int))), (AV.dat (D.int IntKind.i64 (0 : Int))), (AV.dat (D.int IntKind.i64 (0 : Int))), (AV.dat (D.str (ByteArray.mk (List.toArray [])))), (AV.dat (D.list LK.nil 0 ([] : Row)))])), (Option.some (Ent.obj [(AV.dat (D.int IntKind.i64 why)), (AV.dat (D.int IntKind.i64 x3)), (AV.dat (D.int IntKind.i64 m)), (AV.dat (D.str d)), (AV.dat (D.list LK.nil 0 ([] : Row)))]))] [] 0))))
 )
 )
 (rAsk ((ByteArray.toList x1.1) == [109])
 (rGet (fnS (fun (p : ByteArray × ByteArray) => ((AV.tup [(AV.dat (D.str p.1)), (AV.dat (D.str p.2))]), [])) (P123 [(AV.dat (D.str x1.2))] [])) fun x4 =>
 (rGet (fnS (fun (n : Int) => ((AV.dat (D.int IntKind.i64 n)), [])) (P124 [(AV.dat (D.str x4.1))] [])) fun x5 =>
 (some (Ex.norm, (St.mk (mkT 0 118 [(0, (AV.dat (D.str s))), (2, (AV.ptr (Ref.loc 0) 0)), (4, (AV.ptr (Ref.loc 1) 0)), (6, (AV.dat (D.str x4.2))), (7, (AV.dat (D.int IntKind.i64 (IntKind.wrap IntKind.i64 (i + (1 : Int))))))]) (Mem.mk [(Option.some (Ent.obj [(AV.dat (D.int IntKind.i64 (0 : Int))), (AV.dat (D.int IntKind.i64 (0 : Int))), (AV.dat (D.int IntKind.i64 (0 : Int))), (AV.dat (D.str (ByteArray.mk (List.toArray [])))), (AV.dat (D.list LK.nil 0 ([] : Row)))])), (Option.some (Ent.obj [(AV.dat (D.int IntKind.i64 why)), (AV.dat (D.int IntKind.i64 n)), (AV.dat (D.int IntKind.i64 x5)), (AV.dat (D.str d)), (AV.dat (D.list LK.nil 0 ([] : Row)))]))] [] 0))))
 )
 )
 (rAsk ((ByteArray.toList x1.1) == [100, 97, 116, 97])
 (rGet (fnS (fun (p : ByteArray × ByteArray) => ((AV.tup [(AV.dat (D.str p.1)), (AV.dat (D.str p.2))]), [])) (P125 [(AV.dat (D.str x1.2)), (AV.dat (D.str (ByteArray.mk (List.toArray [32, 108, 105, 115, 116, 32]))))] [])) fun x6 =>
 (rGet (fnS (fun (p : ByteArray × Int) => ((AV.tup [(AV.dat (D.str p.1)), (AV.dat (D.int IntKind.i64 p.2))]), [])) (P126 [(AV.dat (D.str x6.1))] [])) fun x7 =>
 (rAsk (!((ByteArray.toList x6.2) == []))
 (rAsk (Nat.ble (5 + (ByteArray.size x6.2)) 9223372036854775807)
 (some (Ex.norm, (St.mk (mkT 0 118 [(0, (AV.dat (D.str s))), (2, (AV.ptr (Ref.loc 0) 0)), (4, (AV.ptr (Ref.loc 1) 0)), (6, (AV.dat (D.str ((ByteArray.mk (List.toArray [108, 105, 115, 116, 32])) ++ x6.2)))), (7, (AV.dat (D.int IntKind.i64 (IntKind.wrap IntKind.i64 (i + (1 : Int))))))]) (Mem.mk [(Option.some (Ent.obj [(AV.dat (D.int IntKind.i64 (0 : Int))), (AV.dat (D.int IntKind.i64 (0 : Int))), (AV.dat (D.int IntKind.i64 (0 : Int))), (AV.dat (D.str (ByteArray.mk (List.toArray [])))), (AV.dat (D.list LK.nil 0 ([] : Row)))])), (Option.some (Ent.obj [(AV.dat (D.int IntKind.i64 why)), (AV.dat (D.int IntKind.i64 n)), (AV.dat (D.int IntKind.i64 m)), (AV.dat (D.str x7.1)), (AV.dat (D.list LK.nil 0 ([] : Row)))]))] [] 0))))
 none
 )
 (some (Ex.norm, (St.mk (mkT 0 118 [(0, (AV.dat (D.str s))), (2, (AV.ptr (Ref.loc 0) 0)), (4, (AV.ptr (Ref.loc 1) 0)), (6, (AV.dat (D.str x6.2))), (7, (AV.dat (D.int IntKind.i64 (IntKind.wrap IntKind.i64 (i + (1 : Int))))))]) (Mem.mk [(Option.some (Ent.obj [(AV.dat (D.int IntKind.i64 (0 : Int))), (AV.dat (D.int IntKind.i64 (0 : Int))), (AV.dat (D.int IntKind.i64 (0 : Int))), (AV.dat (D.str (ByteArray.mk (List.toArray [])))), (AV.dat (D.list LK.nil 0 ([] : Row)))])), (Option.some (Ent.obj [(AV.dat (D.int IntKind.i64 why)), (AV.dat (D.int IntKind.i64 n)), (AV.dat (D.int IntKind.i64 m)), (AV.dat (D.str x7.1)), (AV.dat (D.list LK.nil 0 ([] : Row)))]))] [] 0))))
 )
 )
 )
 (rAsk ((ByteArray.toList x1.1) == [108, 105, 115, 116])
 (rAsk (Option.isSome (loS TT (TOrc.runs t110) (HSp 10) lpQi (outQin (AV.dat (D.str s)) (AV.dat (D.int IntKind.i64 i)) (Option.some (Ent.obj [(AV.dat (D.int IntKind.i64 why)), (AV.dat (D.int IntKind.i64 n)), (AV.dat (D.int IntKind.i64 m)), (AV.dat (D.str d)), (AV.dat (D.list LK.nil 0 ([] : Row)))]))) (St.mk (mkT 0 118 [(0, (AV.dat (D.str s))), (2, (AV.ptr (Ref.loc 0) 0)), (4, (AV.ptr (Ref.loc 1) 0)), (6, (AV.dat (D.str x1.2))), (7, (AV.dat (D.int IntKind.i64 i))), (8, (AV.dat (D.int IntKind.i64 (0 : Int))))]) (Mem.mk [(Option.some (Ent.obj [(AV.dat (D.int IntKind.i64 (0 : Int))), (AV.dat (D.int IntKind.i64 (0 : Int))), (AV.dat (D.int IntKind.i64 (0 : Int))), (AV.dat (D.str (ByteArray.mk (List.toArray [])))), (AV.dat (D.list LK.nil 0 ([] : Row)))])), (Option.some (Ent.obj [(AV.dat (D.int IntKind.i64 why)), (AV.dat (D.int IntKind.i64 n)), (AV.dat (D.int IntKind.i64 m)), (AV.dat (D.str d)), (AV.dat (D.list LK.nil 0 ([] : Row)))]))] [] 0))))
 (rGet (loS TT (TOrc.runs t110) (HSp 10) lpQi (outQin (AV.dat (D.str s)) (AV.dat (D.int IntKind.i64 i)) (Option.some (Ent.obj [(AV.dat (D.int IntKind.i64 why)), (AV.dat (D.int IntKind.i64 n)), (AV.dat (D.int IntKind.i64 m)), (AV.dat (D.str d)), (AV.dat (D.list LK.nil 0 ([] : Row)))]))) (St.mk (mkT 0 118 [(0, (AV.dat (D.str s))), (2, (AV.ptr (Ref.loc 0) 0)), (4, (AV.ptr (Ref.loc 1) 0)), (6, (AV.dat (D.str x1.2))), (7, (AV.dat (D.int IntKind.i64 i))), (8, (AV.dat (D.int IntKind.i64 (0 : Int))))]) (Mem.mk [(Option.some (Ent.obj [(AV.dat (D.int IntKind.i64 (0 : Int))), (AV.dat (D.int IntKind.i64 (0 : Int))), (AV.dat (D.int IntKind.i64 (0 : Int))), (AV.dat (D.str (ByteArray.mk (List.toArray [])))), (AV.dat (D.list LK.nil 0 ([] : Row)))])), (Option.some (Ent.obj [(AV.dat (D.int IntKind.i64 why)), (AV.dat (D.int IntKind.i64 n)), (AV.dat (D.int IntKind.i64 m)), (AV.dat (D.str d)), (AV.dat (D.list LK.nil 0 ([] : Row)))]))] [] 0))) fun x8 =>
 (some (Ex.norm, (St.mk (mkT 0 118 [(0, (AV.dat (D.str s))), (2, (AV.ptr (Ref.loc 0) 0)), (4, (AV.ptr (Ref.loc 1) 0)), (6, (AV.dat (D.str x8))), (7, (AV.dat (D.int IntKind.i64 (IntKind.wrap IntKind.i64 (i + (1 : Int))))))]) (Mem.mk [(Option.some (Ent.obj [(AV.dat (D.int IntKind.i64 (0 : Int))), (AV.dat (D.int IntKind.i64 (0 : Int))), (AV.dat (D.int IntKind.i64 (0 : Int))), (AV.dat (D.str (ByteArray.mk (List.toArray [])))), (AV.dat (D.list LK.nil 0 ([] : Row)))])), (Option.some (Ent.obj [(AV.dat (D.int IntKind.i64 why)), (AV.dat (D.int IntKind.i64 n)), (AV.dat (D.int IntKind.i64 m)), (AV.dat (D.str d)), (AV.dat (D.list LK.nil 0 ([] : Row)))]))] [] 0))))
 )
 (rGet (loS TT (TOrc.runs t110) (HSp 10) lpQi (outQir (AV.dat (D.str s)) (AV.dat (D.int IntKind.i64 i)) (Option.some (Ent.obj [(AV.dat (D.int IntKind.i64 why)), (AV.dat (D.int IntKind.i64 n)), (AV.dat (D.int IntKind.i64 m)), (AV.dat (D.str d)), (AV.dat (D.list LK.nil 0 ([] : Row)))]))) (St.mk (mkT 0 118 [(0, (AV.dat (D.str s))), (2, (AV.ptr (Ref.loc 0) 0)), (4, (AV.ptr (Ref.loc 1) 0)), (6, (AV.dat (D.str x1.2))), (7, (AV.dat (D.int IntKind.i64 i))), (8, (AV.dat (D.int IntKind.i64 (0 : Int))))]) (Mem.mk [(Option.some (Ent.obj [(AV.dat (D.int IntKind.i64 (0 : Int))), (AV.dat (D.int IntKind.i64 (0 : Int))), (AV.dat (D.int IntKind.i64 (0 : Int))), (AV.dat (D.str (ByteArray.mk (List.toArray [])))), (AV.dat (D.list LK.nil 0 ([] : Row)))])), (Option.some (Ent.obj [(AV.dat (D.int IntKind.i64 why)), (AV.dat (D.int IntKind.i64 n)), (AV.dat (D.int IntKind.i64 m)), (AV.dat (D.str d)), (AV.dat (D.list LK.nil 0 ([] : Row)))]))] [] 0))) fun x9 =>
 (some (Ex.norm, (St.mk (mkT 0 118 [(0, (AV.dat (D.str s))), (2, (AV.ptr (Ref.loc 0) 0)), (4, (AV.ptr (Ref.loc 1) 0)), (6, (AV.dat (D.str x9.1))), (7, (AV.dat (D.int IntKind.i64 (IntKind.wrap IntKind.i64 (i + (1 : Int))))))]) (Mem.mk [(Option.some (Ent.obj [(AV.dat (D.int IntKind.i64 (0 : Int))), (AV.dat (D.int IntKind.i64 (0 : Int))), (AV.dat (D.int IntKind.i64 (0 : Int))), (AV.dat (D.str (ByteArray.mk (List.toArray [])))), (AV.dat (D.list LK.nil 0 ([] : Row)))])), (Option.some (Ent.obj [(AV.dat (D.int IntKind.i64 why)), (AV.dat (D.int IntKind.i64 n)), (AV.dat (D.int IntKind.i64 m)), (AV.dat (D.str d)), (AV.sh false 2 1 0 (List.length x9.2))])), (Option.some (Ent.row Mode.excl 1 x9.2))] [] 0))))
 )
 )
 (some (Ex.norm, (St.mk (mkT 0 118 [(0, (AV.dat (D.str s))), (2, (AV.ptr (Ref.loc 0) 0)), (4, (AV.ptr (Ref.loc 1) 0)), (6, (AV.dat (D.str (ByteArray.mk (List.toArray []))))), (7, (AV.dat (D.int IntKind.i64 (IntKind.wrap IntKind.i64 (i + (1 : Int))))))]) (Mem.mk [(Option.some (Ent.obj [(AV.dat (D.int IntKind.i64 (0 : Int))), (AV.dat (D.int IntKind.i64 (0 : Int))), (AV.dat (D.int IntKind.i64 (0 : Int))), (AV.dat (D.str (ByteArray.mk (List.toArray [])))), (AV.dat (D.list LK.nil 0 ([] : Row)))])), (Option.some (Ent.obj [(AV.dat (D.int IntKind.i64 why)), (AV.dat (D.int IntKind.i64 n)), (AV.dat (D.int IntKind.i64 m)), (AV.dat (D.str d)), (AV.dat (D.list LK.nil 0 ([] : Row)))]))] [] 0))))
 )
 )
 )
 )
 )
 (some ((Ex.exit 0), (St.mk (mkT 0 118 [(0, (AV.dat (D.str s))), (2, (AV.ptr (Ref.loc 0) 0)), (4, (AV.ptr (Ref.loc 1) 0))]) (Mem.mk [(Option.some (Ent.obj [(AV.dat (D.int IntKind.i64 (0 : Int))), (AV.dat (D.int IntKind.i64 (0 : Int))), (AV.dat (D.int IntKind.i64 (0 : Int))), (AV.dat (D.str (ByteArray.mk (List.toArray [])))), (AV.dat (D.list LK.nil 0 ([] : Row)))])), (Option.some (Ent.obj [(AV.dat (D.int IntKind.i64 why)), (AV.dat (D.int IntKind.i64 n)), (AV.dat (D.int IntKind.i64 m)), (AV.dat (D.str d)), (AV.dat (D.list LK.nil 0 ([] : Row)))]))] [] 0))))
 )
 (some ((Ex.exit 0), (St.mk (mkT 0 118 [(0, (AV.dat (D.str s))), (2, (AV.ptr (Ref.loc 0) 0)), (4, (AV.ptr (Ref.loc 1) 0))]) (Mem.mk [(Option.some (Ent.obj [(AV.dat (D.int IntKind.i64 (0 : Int))), (AV.dat (D.int IntKind.i64 (0 : Int))), (AV.dat (D.int IntKind.i64 (0 : Int))), (AV.dat (D.str (ByteArray.mk (List.toArray [])))), (AV.dat (D.list LK.nil 0 ([] : Row)))])), (Option.some (Ent.obj [(AV.dat (D.int IntKind.i64 why)), (AV.dat (D.int IntKind.i64 n)), (AV.dat (D.int IntKind.i64 m)), (AV.dat (D.str d)), (AV.dat (D.list LK.nil 0 ([] : Row)))]))] [] 0))))
 )
  := by kernel_rfl
theorem rkQr_eq (s : ByteArray) (why n m : Int) (d : ByteArray) (q : Row) (rest : ByteArray) (i : Int) : (rkQr s why n m d q rest i).ev =
 (rAsk (decide (i < (4 : Int)))
 (rAsk (!((ByteArray.toList rest) == []))
 (rGet (fnS (fun (p : ByteArray × ByteArray) => ((AV.tup [(AV.dat (D.str p.1)), (AV.dat (D.str p.2))]), [])) (P123 [(AV.dat (D.str rest))] [])) fun x1 =>
 (rAsk ((ByteArray.toList x1.1) == [110])
 (rGet (fnS (fun (p : ByteArray × ByteArray) => ((AV.tup [(AV.dat (D.str p.1)), (AV.dat (D.str p.2))]), [])) (P123 [(AV.dat (D.str x1.2))] [])) fun x2 =>
 (rGet (fnS (fun (n : Int) => ((AV.dat (D.int IntKind.i64 n)), [])) (P124 [(AV.dat (D.str x2.1))] [])) fun x3 =>
 (some (Ex.norm, (St.mk (mkT 0 118 [(0, (AV.dat (D.str s))), (2, (AV.ptr (Ref.loc 0) 0)), (4, (AV.ptr (Ref.loc 1) 0)), (6, (AV.dat (D.str x2.2))), (7, (AV.dat (D.int IntKind.i64 (IntKind.wrap IntKind.i64 (i + (1 : Int))))))]) (Mem.mk [(Option.some (Ent.obj [(AV.dat (D.int IntKind.i64 (0 : Int))), (AV.dat (D.int IntKind.i64 (0 : Int))), (AV.dat (D.int IntKind.i64 (0 : Int))), (AV.dat (D.str (ByteArray.mk (List.toArray [])))), (AV.dat (D.list LK.nil 0 ([] : Row)))])), (Option.some (Ent.obj [(AV.dat (D.int IntKind.i64 why)), (AV.dat (D.int IntKind.i64 x3)), (AV.dat (D.int IntKind.i64 m)), (AV.dat (D.str d)), (AV.sh false 2 1 0 (List.length q))])), (Option.some (Ent.row Mode.excl 1 q))] [] 0))))
 )
 )
 (rAsk ((ByteArray.toList x1.1) == [109])
 (rGet (fnS (fun (p : ByteArray × ByteArray) => ((AV.tup [(AV.dat (D.str p.1)), (AV.dat (D.str p.2))]), [])) (P123 [(AV.dat (D.str x1.2))] [])) fun x4 =>
 (rGet (fnS (fun (n : Int) => ((AV.dat (D.int IntKind.i64 n)), [])) (P124 [(AV.dat (D.str x4.1))] [])) fun x5 =>
 (some (Ex.norm, (St.mk (mkT 0 118 [(0, (AV.dat (D.str s))), (2, (AV.ptr (Ref.loc 0) 0)), (4, (AV.ptr (Ref.loc 1) 0)), (6, (AV.dat (D.str x4.2))), (7, (AV.dat (D.int IntKind.i64 (IntKind.wrap IntKind.i64 (i + (1 : Int))))))]) (Mem.mk [(Option.some (Ent.obj [(AV.dat (D.int IntKind.i64 (0 : Int))), (AV.dat (D.int IntKind.i64 (0 : Int))), (AV.dat (D.int IntKind.i64 (0 : Int))), (AV.dat (D.str (ByteArray.mk (List.toArray [])))), (AV.dat (D.list LK.nil 0 ([] : Row)))])), (Option.some (Ent.obj [(AV.dat (D.int IntKind.i64 why)), (AV.dat (D.int IntKind.i64 n)), (AV.dat (D.int IntKind.i64 x5)), (AV.dat (D.str d)), (AV.sh false 2 1 0 (List.length q))])), (Option.some (Ent.row Mode.excl 1 q))] [] 0))))
 )
 )
 (rAsk ((ByteArray.toList x1.1) == [100, 97, 116, 97])
 (rGet (fnS (fun (p : ByteArray × ByteArray) => ((AV.tup [(AV.dat (D.str p.1)), (AV.dat (D.str p.2))]), [])) (P125 [(AV.dat (D.str x1.2)), (AV.dat (D.str (ByteArray.mk (List.toArray [32, 108, 105, 115, 116, 32]))))] [])) fun x6 =>
 (rGet (fnS (fun (p : ByteArray × Int) => ((AV.tup [(AV.dat (D.str p.1)), (AV.dat (D.int IntKind.i64 p.2))]), [])) (P126 [(AV.dat (D.str x6.1))] [])) fun x7 =>
 (rAsk (!((ByteArray.toList x6.2) == []))
 (rAsk (Nat.ble (5 + (ByteArray.size x6.2)) 9223372036854775807)
 (some (Ex.norm, (St.mk (mkT 0 118 [(0, (AV.dat (D.str s))), (2, (AV.ptr (Ref.loc 0) 0)), (4, (AV.ptr (Ref.loc 1) 0)), (6, (AV.dat (D.str ((ByteArray.mk (List.toArray [108, 105, 115, 116, 32])) ++ x6.2)))), (7, (AV.dat (D.int IntKind.i64 (IntKind.wrap IntKind.i64 (i + (1 : Int))))))]) (Mem.mk [(Option.some (Ent.obj [(AV.dat (D.int IntKind.i64 (0 : Int))), (AV.dat (D.int IntKind.i64 (0 : Int))), (AV.dat (D.int IntKind.i64 (0 : Int))), (AV.dat (D.str (ByteArray.mk (List.toArray [])))), (AV.dat (D.list LK.nil 0 ([] : Row)))])), (Option.some (Ent.obj [(AV.dat (D.int IntKind.i64 why)), (AV.dat (D.int IntKind.i64 n)), (AV.dat (D.int IntKind.i64 m)), (AV.dat (D.str x7.1)), (AV.sh false 2 1 0 (List.length q))])), (Option.some (Ent.row Mode.excl 1 q))] [] 0))))
 none
 )
 (some (Ex.norm, (St.mk (mkT 0 118 [(0, (AV.dat (D.str s))), (2, (AV.ptr (Ref.loc 0) 0)), (4, (AV.ptr (Ref.loc 1) 0)), (6, (AV.dat (D.str x6.2))), (7, (AV.dat (D.int IntKind.i64 (IntKind.wrap IntKind.i64 (i + (1 : Int))))))]) (Mem.mk [(Option.some (Ent.obj [(AV.dat (D.int IntKind.i64 (0 : Int))), (AV.dat (D.int IntKind.i64 (0 : Int))), (AV.dat (D.int IntKind.i64 (0 : Int))), (AV.dat (D.str (ByteArray.mk (List.toArray [])))), (AV.dat (D.list LK.nil 0 ([] : Row)))])), (Option.some (Ent.obj [(AV.dat (D.int IntKind.i64 why)), (AV.dat (D.int IntKind.i64 n)), (AV.dat (D.int IntKind.i64 m)), (AV.dat (D.str x7.1)), (AV.sh false 2 1 0 (List.length q))])), (Option.some (Ent.row Mode.excl 1 q))] [] 0))))
 )
 )
 )
 (rAsk ((ByteArray.toList x1.1) == [108, 105, 115, 116])
 (rAsk (Option.isSome (loS TT (TOrc.runs t110) (HSp 10) lpQi (outQin (AV.dat (D.str s)) (AV.dat (D.int IntKind.i64 i)) (Option.some (Ent.obj [(AV.dat (D.int IntKind.i64 why)), (AV.dat (D.int IntKind.i64 n)), (AV.dat (D.int IntKind.i64 m)), (AV.dat (D.str d)), (AV.sh false 2 1 0 (List.length q))]))) (St.mk (mkT 0 118 [(0, (AV.dat (D.str s))), (2, (AV.ptr (Ref.loc 0) 0)), (4, (AV.ptr (Ref.loc 1) 0)), (6, (AV.dat (D.str x1.2))), (7, (AV.dat (D.int IntKind.i64 i))), (8, (AV.dat (D.int IntKind.i64 (0 : Int))))]) (Mem.mk [(Option.some (Ent.obj [(AV.dat (D.int IntKind.i64 (0 : Int))), (AV.dat (D.int IntKind.i64 (0 : Int))), (AV.dat (D.int IntKind.i64 (0 : Int))), (AV.dat (D.str (ByteArray.mk (List.toArray [])))), (AV.dat (D.list LK.nil 0 ([] : Row)))])), (Option.some (Ent.obj [(AV.dat (D.int IntKind.i64 why)), (AV.dat (D.int IntKind.i64 n)), (AV.dat (D.int IntKind.i64 m)), (AV.dat (D.str d)), (AV.sh false 2 1 0 (List.length q))])), (Option.some (Ent.row Mode.excl 1 q))] [] 0))))
 (rGet (loS TT (TOrc.runs t110) (HSp 10) lpQi (outQin (AV.dat (D.str s)) (AV.dat (D.int IntKind.i64 i)) (Option.some (Ent.obj [(AV.dat (D.int IntKind.i64 why)), (AV.dat (D.int IntKind.i64 n)), (AV.dat (D.int IntKind.i64 m)), (AV.dat (D.str d)), (AV.sh false 2 1 0 (List.length q))]))) (St.mk (mkT 0 118 [(0, (AV.dat (D.str s))), (2, (AV.ptr (Ref.loc 0) 0)), (4, (AV.ptr (Ref.loc 1) 0)), (6, (AV.dat (D.str x1.2))), (7, (AV.dat (D.int IntKind.i64 i))), (8, (AV.dat (D.int IntKind.i64 (0 : Int))))]) (Mem.mk [(Option.some (Ent.obj [(AV.dat (D.int IntKind.i64 (0 : Int))), (AV.dat (D.int IntKind.i64 (0 : Int))), (AV.dat (D.int IntKind.i64 (0 : Int))), (AV.dat (D.str (ByteArray.mk (List.toArray [])))), (AV.dat (D.list LK.nil 0 ([] : Row)))])), (Option.some (Ent.obj [(AV.dat (D.int IntKind.i64 why)), (AV.dat (D.int IntKind.i64 n)), (AV.dat (D.int IntKind.i64 m)), (AV.dat (D.str d)), (AV.sh false 2 1 0 (List.length q))])), (Option.some (Ent.row Mode.excl 1 q))] [] 0))) fun x8 =>
 (some (Ex.norm, (St.mk (mkT 0 118 [(0, (AV.dat (D.str s))), (2, (AV.ptr (Ref.loc 0) 0)), (4, (AV.ptr (Ref.loc 1) 0)), (6, (AV.dat (D.str x8))), (7, (AV.dat (D.int IntKind.i64 (IntKind.wrap IntKind.i64 (i + (1 : Int))))))]) (Mem.mk [(Option.some (Ent.obj [(AV.dat (D.int IntKind.i64 (0 : Int))), (AV.dat (D.int IntKind.i64 (0 : Int))), (AV.dat (D.int IntKind.i64 (0 : Int))), (AV.dat (D.str (ByteArray.mk (List.toArray [])))), (AV.dat (D.list LK.nil 0 ([] : Row)))])), (Option.some (Ent.obj [(AV.dat (D.int IntKind.i64 why)), (AV.dat (D.int IntKind.i64 n)), (AV.dat (D.int IntKind.i64 m)), (AV.dat (D.str d)), (AV.sh false 2 1 0 (List.length q))])), (Option.none)] [] 0))))
 )
 (rGet (loS TT (TOrc.runs t110) (HSp 10) lpQi (outQir (AV.dat (D.str s)) (AV.dat (D.int IntKind.i64 i)) (Option.some (Ent.obj [(AV.dat (D.int IntKind.i64 why)), (AV.dat (D.int IntKind.i64 n)), (AV.dat (D.int IntKind.i64 m)), (AV.dat (D.str d)), (AV.sh false 2 1 0 (List.length q))]))) (St.mk (mkT 0 118 [(0, (AV.dat (D.str s))), (2, (AV.ptr (Ref.loc 0) 0)), (4, (AV.ptr (Ref.loc 1) 0)), (6, (AV.dat (D.str x1.2))), (7, (AV.dat (D.int IntKind.i64 i))), (8, (AV.dat (D.int IntKind.i64 (0 : Int))))]) (Mem.mk [(Option.some (Ent.obj [(AV.dat (D.int IntKind.i64 (0 : Int))), (AV.dat (D.int IntKind.i64 (0 : Int))), (AV.dat (D.int IntKind.i64 (0 : Int))), (AV.dat (D.str (ByteArray.mk (List.toArray [])))), (AV.dat (D.list LK.nil 0 ([] : Row)))])), (Option.some (Ent.obj [(AV.dat (D.int IntKind.i64 why)), (AV.dat (D.int IntKind.i64 n)), (AV.dat (D.int IntKind.i64 m)), (AV.dat (D.str d)), (AV.sh false 2 1 0 (List.length q))])), (Option.some (Ent.row Mode.excl 1 q))] [] 0))) fun x9 =>
 (some (Ex.norm, (St.mk (mkT 0 118 [(0, (AV.dat (D.str s))), (2, (AV.ptr (Ref.loc 0) 0)), (4, (AV.ptr (Ref.loc 1) 0)), (6, (AV.dat (D.str x9.1))), (7, (AV.dat (D.int IntKind.i64 (IntKind.wrap IntKind.i64 (i + (1 : Int))))))]) (Mem.mk [(Option.some (Ent.obj [(AV.dat (D.int IntKind.i64 (0 : Int))), (AV.dat (D.int IntKind.i64 (0 : Int))), (AV.dat (D.int IntKind.i64 (0 : Int))), (AV.dat (D.str (ByteArray.mk (List.toArray [])))), (AV.dat (D.list LK.nil 0 ([] : Row)))])), (Option.some (Ent.obj [(AV.dat (D.int IntKind.i64 why)), (AV.dat (D.int IntKind.i64 n)), (AV.dat (D.int IntKind.i64 m)), (AV.dat (D.str d)), (AV.sh false 2 1 0 (List.length x9.2))])), (Option.some (Ent.row Mode.excl 1 x9.2))] [] 0))))
 )
 )
 (some (Ex.norm, (St.mk (mkT 0 118 [(0, (AV.dat (D.str s))), (2, (AV.ptr (Ref.loc 0) 0)), (4, (AV.ptr (Ref.loc 1) 0)), (6, (AV.dat (D.str (ByteArray.mk (List.toArray []))))), (7, (AV.dat (D.int IntKind.i64 (IntKind.wrap IntKind.i64 (i + (1 : Int))))))]) (Mem.mk [(Option.some (Ent.obj [(AV.dat (D.int IntKind.i64 (0 : Int))), (AV.dat (D.int IntKind.i64 (0 : Int))), (AV.dat (D.int IntKind.i64 (0 : Int))), (AV.dat (D.str (ByteArray.mk (List.toArray [])))), (AV.dat (D.list LK.nil 0 ([] : Row)))])), (Option.some (Ent.obj [(AV.dat (D.int IntKind.i64 why)), (AV.dat (D.int IntKind.i64 n)), (AV.dat (D.int IntKind.i64 m)), (AV.dat (D.str d)), (AV.sh false 2 1 0 (List.length q))])), (Option.some (Ent.row Mode.excl 1 q))] [] 0))))
 )
 )
 )
 )
 )
 (some ((Ex.exit 0), (St.mk (mkT 0 118 [(0, (AV.dat (D.str s))), (2, (AV.ptr (Ref.loc 0) 0)), (4, (AV.ptr (Ref.loc 1) 0))]) (Mem.mk [(Option.some (Ent.obj [(AV.dat (D.int IntKind.i64 (0 : Int))), (AV.dat (D.int IntKind.i64 (0 : Int))), (AV.dat (D.int IntKind.i64 (0 : Int))), (AV.dat (D.str (ByteArray.mk (List.toArray [])))), (AV.dat (D.list LK.nil 0 ([] : Row)))])), (Option.some (Ent.obj [(AV.dat (D.int IntKind.i64 why)), (AV.dat (D.int IntKind.i64 n)), (AV.dat (D.int IntKind.i64 m)), (AV.dat (D.str d)), (AV.sh false 2 1 0 (List.length q))])), (Option.some (Ent.row Mode.excl 1 q))] [] 0))))
 )
 (some ((Ex.exit 0), (St.mk (mkT 0 118 [(0, (AV.dat (D.str s))), (2, (AV.ptr (Ref.loc 0) 0)), (4, (AV.ptr (Ref.loc 1) 0))]) (Mem.mk [(Option.some (Ent.obj [(AV.dat (D.int IntKind.i64 (0 : Int))), (AV.dat (D.int IntKind.i64 (0 : Int))), (AV.dat (D.int IntKind.i64 (0 : Int))), (AV.dat (D.str (ByteArray.mk (List.toArray [])))), (AV.dat (D.list LK.nil 0 ([] : Row)))])), (Option.some (Ent.obj [(AV.dat (D.int IntKind.i64 why)), (AV.dat (D.int IntKind.i64 n)), (AV.dat (D.int IntKind.i64 m)), (AV.dat (D.str d)), (AV.sh false 2 1 0 (List.length q))])), (Option.some (Ent.row Mode.excl 1 q))] [] 0))))
 )
  := by kernel_rfl
theorem cutw_len (b : UInt8) : ∀ l : List UInt8, (cut1 b l).1.length ≤ l.length ∧ (cut1 b l).2.1.length ≤ l.length
  | [] => ⟨Nat.le_refl _, Nat.le_refl _⟩
  | c :: l => by
    have ih := cutw_len b l
    unfold cut1
    split <;> simp only [List.length_cons, List.length_nil] <;> omega
theorem wordR_len (s : List UInt8) : (wordR s).2.length ≤ s.length := (cutw_len 32 s).2
theorem until_len (w : List UInt8) : ∀ l : List UInt8, (untilL w l).1.length ≤ l.length ∧ ((untilL w l).2 = [] ∨ (untilL w l).2.length + w.length ≤ l.length)
  | [] => ⟨Nat.le_refl _, .inl rfl⟩
  | c :: r => by
    have ih := until_len w r
    unfold untilL
    split
    · rename_i h
      rw [List.isPrefixOf_iff_prefix] at h
      have := h.length_le
      refine ⟨Nat.zero_le _, .inr ?_⟩
      rw [List.length_drop]
      omega
    · simp only [List.length_cons]
      refine ⟨by omega, ?_⟩
      rcases ih.2 with h | h
      · exact .inl h
      · exact .inr (by omega)
theorem behind_len (l : List UInt8) : (behind (untilL sepL l).2).length ≤ l.length := by
  unfold behind
  rcases (until_len sepL l).2 with h | h
  · rw [if_pos h]
    exact Nat.zero_le _
  · split
    · exact Nat.zero_le _
    · simp only [List.length_append, List.length_cons, wList, List.length_nil]
      rw [show sepL.length = 6 from rfl] at h
      omega
theorem listR_app : ∀ (k : Nat) (rest : List UInt8) (acc : List Int), ∃ l, (listR k rest acc).2 = acc ++ l ∧ l.length ≤ k ∧ (rest ≠ [] → 0 < k → l ≠ [])
  | 0, rest, acc => ⟨[], by rw [List.append_nil]; rfl, Nat.le_refl _, fun _ h => absurd h (by omega)⟩
  | k + 1, rest, acc => by
    unfold listR
    split
    · rename_i h
      exact ⟨[], by rw [List.append_nil], Nat.zero_le _, fun h1 => absurd h h1⟩
    · obtain ⟨l, h1, h2, _⟩ := listR_app k (wordR rest).2 (acc ++ [numR (wordR rest).1])
      exact ⟨numR (wordR rest).1 :: l, by rw [h1]; simp, by rw [List.length_cons]; omega, fun _ _ => by simp⟩
theorem guessR_why : ∀ (k : Nat) (rest : List UInt8) (x : An), (guessR k rest x).why = x.why
  | 0, _, _ => rfl
  | k + 1, rest, x => by
    unfold guessR
    split
    · rfl
    · simp only
      split
      · rw [guessR_why]
      · split
        · rw [guessR_why]
        · split
          · rw [guessR_why]
          · split
            · rw [guessR_why]
            · rfl
def nilC : AV := .dat (.list .nil 0 [])
attribute [local irreducible] fnS loS tround P123 P124 P125 P126
theorem p126 (t : List UInt8) (G : List Ent) : P126 [.dat (.str (ba t))] G = some (oLg G (lgOf (refL t))) := by
  unfold P126
  exact pureS_eq (G0 := []) rfl (f9_run t) (by cases refL t <;> rfl)
/-! ### the list's words -/
theorem goQin {s : ByteArray} {why n m : Int} {d rest : ByteArray} {i k : Int} {o} (h : (rkQin s why n m d rest i k).ev = o) : (tround TT t110 noLo (HSp 10) lpQi (invQi false s why n m d [] rest i k)).run = o := by
  rw [Tr.ev_run] at h
  exact h
theorem goQir {s : ByteArray} {why n m : Int} {d : ByteArray} {q : Row} {rest : ByteArray} {i k : Int} {o} (h : (rkQir s why n m d q rest i k).ev = o) : (tround TT t110 noLo (HSp 10) lpQi (invQi true s why n m d q rest i k)).run = o := by
  rw [Tr.ev_run] at h
  exact h
theorem notNil {l : List UInt8} (h : l ≠ []) : (!((ba l).toList == [])) = true := by rw [ba_list]; simpa using h
theorem isNilW : (!((ba []).toList == ([] : List UInt8))) = false := by rw [ba_list]; rfl
theorem loopQi {s : ByteArray} {why n m : Int} {d : ByteArray} {i : Int} : ∀ (f : Nat) (rest : List UInt8) (acc : List Int), f ≤ 61 → rest.length ≤ 4000 → acc.length + f ≤ 1000 →
    LoopTo TT t110.runs (HSp 10) lpQi (invQi true s why n m d (encI acc) (ba rest) i ((61 - f : Nat) : Int)) (outQir (.dat (.str s)) (jn i) (obA why n m d nilC) (ba (listR f rest acc).1, encI (listR f rest acc).2))
  | 0, rest, acc, _, _, _ => by
    refine LoopTo.last (orc := t110) (lo := noLo) (fun _ _ _ _ h => h) (LoOk2.no _) (goQir ?_) (by simp [outQir])
    rw [rkQir_eq]
    exact aF (by rw [decide_eq_false_iff_not]; omega) rfl
  | f + 1, rest, acc, hf, hr, ha => by
    have a0 : decide (((61 - (f + 1) : Nat) : Int) < (61 : Int)) = true := by rw [decide_eq_true_eq]; omega
    by_cases h0 : rest = []
    · subst h0
      refine LoopTo.last (orc := t110) (lo := noLo) (fun _ _ _ _ h => h) (LoOk2.no _) (goQir ?_) (by simp [outQir])
      rw [rkQir_eq, listR, if_pos rfl]
      exact aT a0 (aF isNilW rfl)
    · have step : (tround TT t110 noLo (HSp 10) lpQi (invQi true s why n m d (encI acc) (ba rest) i ((61 - (f + 1) : Nat) : Int))).run = some (.norm, invQi true s why n m d (encI (acc ++ [numR (wordR rest).1])) (ba (wordR rest).2) i ((61 - f : Nat) : Int)) := by
        refine goQir ?_
        rw [rkQir_eq, w64 (n := 61 - f) (by omega) (x := ((61 - (f + 1) : Nat) : Int) + 1) (by omega)]
        refine aT a0 (aT (notNil h0) (gStep (fnS_eq (out := oWw []) oWw_inj (p123 hr [])) (gStep (fnS_eq (out := oI []) oI_injW (p124 (wordR rest).1 [])) (aT ?_ (aT (by simp) ?_)))))
        · rw [Nat.zero_add, Bool.and_eq_true, fits_iff, encI_len]
          exact ⟨decide_eq_true (Nat.le_refl _), by omega, by omega⟩
        · rw [encI_snoc]
          unfold invQi cR dE
          simp only [if_true, List.length_append, List.length_singleton]
          rfl
      have ih := loopQi (s := s) (why := why) (n := n) (m := m) (d := d) (i := i) f (wordR rest).2 (acc ++ [numR (wordR rest).1]) (by omega) (Nat.le_trans (wordR_len _) hr) (by rw [List.length_append, List.length_singleton]; omega)
      rw [listR, if_neg h0]
      exact LoopTo.more (orc := t110) (lo := noLo) (fun _ _ _ _ h => h) (LoOk2.no _) step ih
theorem loopQn0 {s : ByteArray} {why n m : Int} {d : ByteArray} {i : Int} : LoopTo TT t110.runs (HSp 10) lpQi (invQi false s why n m d [] (ba []) i 0) (outQin (.dat (.str s)) (jn i) (obA why n m d nilC) (ba [])) := by
  refine LoopTo.last (orc := t110) (lo := noLo) (fun _ _ _ _ h => h) (LoOk2.no _) (goQin ?_) (by simp [outQin])
  rw [rkQin_eq]
  exact aT rfl (aF isNilW rfl)
theorem loopQn1 {s : ByteArray} {why n m : Int} {d : ByteArray} {i : Int} {rest : List UInt8} (h0 : rest ≠ []) (hr : rest.length ≤ 4000) :
    LoopTo TT t110.runs (HSp 10) lpQi (invQi false s why n m d [] (ba rest) i 0) (outQir (.dat (.str s)) (jn i) (obA why n m d nilC) (ba (listR 61 rest []).1, encI (listR 61 rest []).2)) := by
  have step : (tround TT t110 noLo (HSp 10) lpQi (invQi false s why n m d [] (ba rest) i 0)).run = some (.norm, invQi true s why n m d (encI [numR (wordR rest).1]) (ba (wordR rest).2) i ((61 - 60 : Nat) : Int)) := by
    refine goQin ?_
    rw [rkQin_eq, w64 (n := 1) (by omega) (x := (0 : Int) + 1) (by omega)]
    exact aT rfl (aT (notNil h0) (gStep (fnS_eq (out := oWw []) oWw_inj (p123 hr [])) (gStep (fnS_eq (out := oI []) oI_injW (p124 (wordR rest).1 [])) rfl)))
  have ih := loopQi (s := s) (why := why) (n := n) (m := m) (d := d) (i := i) 60 (wordR rest).2 [numR (wordR rest).1] (by omega) (Nat.le_trans (wordR_len _) hr) (by rw [List.length_singleton]; omega)
  rw [listR, if_neg h0, List.nil_append]
  exact LoopTo.more (orc := t110) (lo := noLo) (fun _ _ _ _ h => h) (LoOk2.no _) step ih
/-! ### the words -/
def stQ (t : List UInt8) (x : An) (rest : List UInt8) (i : Int) : St := match x.list with
  | [] => invQ false (ba t) x.why x.n x.m (ba x.data) [] (ba rest) i
  | v :: l => invQ true (ba t) x.why x.n x.m (ba x.data) (encI (v :: l)) (ba rest) i
def toQ (t : List UInt8) (y : An) (st : St) : Prop := match y.list with
  | [] => LoopTo TT t110.runs (HSp 10) lpQ st (outQn (.dat (.str (ba t))) (jn y.why) (y.n, y.m, ba y.data))
  | v :: l => LoopTo TT t110.runs (HSp 10) lpQ st (outQr (.dat (.str (ba t))) (jn y.why) (y.n, y.m, ba y.data, encI (v :: l)))
theorem goQn {t : List UInt8} {why n m : Int} {d rest : List UInt8} {i : Int} {o} (h : (rkQn (ba t) why n m (ba d) (ba rest) i).ev = o) : (tround TT t110 loQi (HSp 10) lpQ (stQ t ⟨why, n, m, d, []⟩ rest i)).run = o := by
  rw [Tr.ev_run] at h
  exact h
theorem goQr {t : List UInt8} {why n m : Int} {d rest : List UInt8} {v : Int} {l : List Int} {i : Int} {o} (h : (rkQr (ba t) why n m (ba d) (encI (v :: l)) (ba rest) i).ev = o) : (tround TT t110 loQi (HSp 10) lpQ (stQ t ⟨why, n, m, d, v :: l⟩ rest i)).run = o := by
  rw [Tr.ev_run] at h
  exact h
theorem loQi_ok : LoOk2 TT t110.runs (HSp 10) loQi lpQ := by
  refine LoOk2.of lpQ fun b hb st r h => ?_
  have hl : loops lpQ = [lpQi] := by kernel_rfl
  rw [hl] at hb
  obtain rfl := List.mem_singleton.1 hb
  rw [show firstRegion lpQi = 24 from by kernel_rfl] at h
  exact tlo2_ok h
theorem outQin_inj {a b : AV} {o : Option Ent} : ∀ x y, outQin a b o x = outQin a b o y → x = y := by
  intro x y h
  simp [outQin, mkT] at h
  exact h
theorem outQir_inj {a b : AV} {o : Option Ent} : ∀ x y, outQir a b o x = outQir a b o y → x = y := by
  rintro ⟨x, q⟩ ⟨y, r⟩ h
  simp [outQir, mkT] at h
  obtain ⟨rfl, _, rfl⟩ := h
  rfl
theorem outQi_no {a b : AV} {o : Option Ent} {y : ByteArray × Row} : ∀ x, outQin a b o x ≠ outQir a b o y := fun x h => by simp [outQin, outQir] at h
theorem lg_fst (o : Option (List UInt8)) : (lgOf o).1 = ba (o.getD []) := by cases o <;> rfl
theorem eqW (w c : List UInt8) (h : w = c) : ((ba w).toList == c) = true := (eqw w c).trans (decide_eq_true h)
theorem neW (w c : List UInt8) (h : ¬ w = c) : ((ba w).toList == c) = false := (eqw w c).trans (decide_eq_false h)
theorem behind_cons {r : List UInt8} (h : r ≠ []) : (ByteArray.mk (List.toArray [108, 105, 115, 116, 32])) ++ ba r = ba (behind r) := by
  unfold behind
  rw [if_neg h, show ByteArray.mk (List.toArray [108, 105, 115, 116, 32]) = ba [108, 105, 115, 116, 32] from rfl, ba_app]
  rfl
theorem stepQ {t : List UInt8} (x : An) (rest : List UInt8) (h0 : rest ≠ []) (i : Nat) (hi : i < 4) (hr : rest.length ≤ 4000) (hx : x.list.length ≤ 800) (k : Nat) :
    ∃ x' rest', (tround TT t110 loQi (HSp 10) lpQ (stQ t x rest i)).run = some (.norm, stQ t x' rest' ((i + 1 : Nat) : Int)) ∧ guessR (k + 1) rest x = guessR k rest' x' ∧ rest'.length ≤ rest.length ∧ x'.list.length ≤ x.list.length + 61 := by
  have a0 : decide (((i : Nat) : Int) < 4) = true := by rw [decide_eq_true_eq]; omega
  have wi : IntKind.wrap IntKind.i64 (((i : Nat) : Int) + 1) = ((i + 1 : Nat) : Int) := w64 (by omega) (by omega)
  have e1 := fnS_eq (out := oWw []) oWw_inj (p123 hr [])
  have l1 := wordR_len rest
  have e2 := fnS_eq (out := oWw []) oWw_inj (p123 (s := (wordR rest).2) (by omega) [])
  have l2 := wordR_len (wordR rest).2
  have e3 := fnS_eq (out := oI []) oI_injW (p124 (wordR (wordR rest).2).1 [])
  have e4 := fnS_eq (out := oWw []) oWw_inj (p125 (s := (wordR rest).2) (by omega) [])
  have e5 := fnS_eq (out := oLg []) oLg_inj (p126 (untilL sepL (wordR rest).2).1 [])
  have l3 := behind_len (wordR rest).2
  obtain ⟨why, n, m, d, L⟩ := x
  rw [guessR, if_neg h0]
  simp only
  by_cases hn : (wordR rest).1 = wN
  · rw [if_pos hn]
    refine ⟨⟨why, numR (wordR (wordR rest).2).1, m, d, L⟩, (wordR (wordR rest).2).2, ?_, rfl, by omega, Nat.le_add_right _ _⟩
    cases L with
    | nil =>
      refine goQn ?_
      rw [rkQn_eq, wi]
      exact aT a0 (aT (notNil h0) (gStep e1 (aT (eqW _ wN hn) (gStep e2 (gStep e3 rfl)))))
    | cons v l =>
      refine goQr ?_
      rw [rkQr_eq, wi]
      exact aT a0 (aT (notNil h0) (gStep e1 (aT (eqW _ wN hn) (gStep e2 (gStep e3 rfl)))))
  rw [if_neg hn]
  by_cases hm : (wordR rest).1 = wM
  · rw [if_pos hm]
    refine ⟨⟨why, n, numR (wordR (wordR rest).2).1, d, L⟩, (wordR (wordR rest).2).2, ?_, rfl, by omega, Nat.le_add_right _ _⟩
    cases L with
    | nil =>
      refine goQn ?_
      rw [rkQn_eq, wi]
      exact aT a0 (aT (notNil h0) (gStep e1 (aF (neW _ wN hn) (aT (eqW _ wM hm) (gStep e2 (gStep e3 rfl))))))
    | cons v l =>
      refine goQr ?_
      rw [rkQr_eq, wi]
      exact aT a0 (aT (notNil h0) (gStep e1 (aF (neW _ wN hn) (aT (eqW _ wM hm) (gStep e2 (gStep e3 rfl))))))
  rw [if_neg hm]
  by_cases hd : (wordR rest).1 = wData
  · rw [if_pos hd]
    refine ⟨⟨why, n, m, (refL (untilL sepL (wordR rest).2).1).getD [], L⟩, behind (untilL sepL (wordR rest).2).2, ?_, rfl, by omega, Nat.le_add_right _ _⟩
    have hf := lg_fst (refL (untilL sepL (wordR rest).2).1)
    by_cases hu : (untilL sepL (wordR rest).2).2 = []
    · have hb : behind (untilL sepL (wordR rest).2).2 = [] := by unfold behind; rw [if_pos hu]
      have hz : (!((ba (untilL sepL (wordR rest).2).2).toList == ([] : List UInt8))) = false := by rw [hu]; exact isNilW
      rw [hb]
      unfold stQ
      simp only
      rw [← hf]
      cases L with
      | nil =>
        refine goQn ?_
        rw [rkQn_eq, wi]
        refine aT a0 (aT (notNil h0) (gStep e1 (aF (neW _ wN hn) (aF (neW _ wM hm) (aT (eqW _ wData hd) (gStep e4 (gStep e5 (aF hz ?_))))))))
        show some (Ex.norm, _) = some (Ex.norm, _)
        unfold wwOf
        rw [hu]
        rfl
      | cons v l =>
        refine goQr ?_
        rw [rkQr_eq, wi]
        refine aT a0 (aT (notNil h0) (gStep e1 (aF (neW _ wN hn) (aF (neW _ wM hm) (aT (eqW _ wData hd) (gStep e4 (gStep e5 (aF hz ?_))))))))
        show some (Ex.norm, _) = some (Ex.norm, _)
        unfold wwOf
        rw [hu]
        rfl
    · have hz := notNil hu
      have hs : Nat.ble (5 + (ba (untilL sepL (wordR rest).2).2).size) 9223372036854775807 = true := by
        rw [ba_sz]
        refine Nat.ble_eq_true_of_le ?_
        rcases (until_len sepL (wordR rest).2).2 with h | h
        · exact absurd h hu
        · omega
      unfold stQ
      simp only
      rw [← hf, ← behind_cons hu]
      cases L with
      | nil =>
        refine goQn ?_
        rw [rkQn_eq, wi]
        exact aT a0 (aT (notNil h0) (gStep e1 (aF (neW _ wN hn) (aF (neW _ wM hm) (aT (eqW _ wData hd) (gStep e4 (gStep e5 (aT hz (aT hs rfl)))))))))
      | cons v l =>
        refine goQr ?_
        rw [rkQr_eq, wi]
        exact aT a0 (aT (notNil h0) (gStep e1 (aF (neW _ wN hn) (aF (neW _ wM hm) (aT (eqW _ wData hd) (gStep e4 (gStep e5 (aT hz (aT hs rfl)))))))))
  rw [if_neg hd]
  by_cases hl : (wordR rest).1 = wList
  · rw [if_pos hl]
    obtain ⟨L', hL, hk, hne⟩ := listR_app 61 (wordR rest).2 L
    have hsz : (listR 61 (wordR rest).2 L).1.length ≤ (wordR rest).2.length := by
      have : ∀ (k : Nat) (r : List UInt8) (a : List Int), (listR k r a).1.length ≤ r.length := by
        intro k
        induction k with
        | zero => intro r a; exact Nat.le_refl _
        | succ k ih =>
          intro r a
          unfold listR
          split
          · exact Nat.le_refl _
          · exact Nat.le_trans (ih _ _) (wordR_len r)
      exact this _ _ _
    refine ⟨⟨why, n, m, d, (listR 61 (wordR rest).2 L).2⟩, (listR 61 (wordR rest).2 L).1, ?_, rfl, by omega, by show (listR 61 (wordR rest).2 L).2.length ≤ L.length + 61; rw [hL, List.length_append]; omega⟩
    cases L with
    | nil =>
      refine goQn ?_
      rw [rkQn_eq, wi]
      by_cases hr2 : (wordR rest).2 = []
      · have hlo := loopQn0 (s := ba t) (why := why) (n := n) (m := m) (d := ba d) (i := ((i : Nat) : Int))
        rw [← hr2] at hlo
        refine aT a0 (aT (notNil h0) (gStep e1 (aF (neW _ wN hn) (aF (neW _ wM hm) (aF (neW _ wData hd) (aT (eqW _ wList hl) (aT (loS_yes (o1 := outQin (.dat (.str (ba t))) (jn ((i : Nat) : Int)) (obA why n m (ba d) nilC)) outQin_inj hlo) (gStep (loS_eq (out := outQin (.dat (.str (ba t))) (jn ((i : Nat) : Int)) (obA why n m (ba d) nilC)) outQin_inj hlo) ?_))))))))
        rw [hr2]
        rfl
      · have hlo := loopQn1 (s := ba t) (why := why) (n := n) (m := m) (d := ba d) (i := ((i : Nat) : Int)) hr2 (by omega)
        refine aT a0 (aT (notNil h0) (gStep e1 (aF (neW _ wN hn) (aF (neW _ wM hm) (aF (neW _ wData hd) (aT (eqW _ wList hl) (aF (loS_no (o1 := outQin (.dat (.str (ba t))) (jn ((i : Nat) : Int)) (obA why n m (ba d) nilC)) hlo outQi_no) (gStep (loS_eq (out := outQir (.dat (.str (ba t))) (jn ((i : Nat) : Int)) (obA why n m (ba d) nilC)) outQir_inj hlo) ?_))))))))
        rw [List.nil_append] at hL
        obtain ⟨v, l, e⟩ : ∃ v l, L' = v :: l := by
          cases L' with
          | nil => exact absurd rfl (hne hr2 (by omega))
          | cons v l => exact ⟨v, l, rfl⟩
        rw [hL, e]
        rfl
    | cons v l =>
      refine goQr ?_
      rw [rkQr_eq, wi]
      have hlo := loopQi (s := ba t) (why := why) (n := n) (m := m) (d := ba d) (i := ((i : Nat) : Int)) 61 (wordR rest).2 (v :: l) (by omega) (by omega) (by simp only [List.length_cons] at hx ⊢; omega)
      refine aT a0 (aT (notNil h0) (gStep e1 (aF (neW _ wN hn) (aF (neW _ wM hm) (aF (neW _ wData hd) (aT (eqW _ wList hl) (aF (loS_no (o1 := outQin (.dat (.str (ba t))) (jn ((i : Nat) : Int)) (obA why n m (ba d) (.sh false 2 1 0 (encI (v :: l)).length))) hlo outQi_no) (gStep (loS_eq (out := outQir (.dat (.str (ba t))) (jn ((i : Nat) : Int)) (obA why n m (ba d) (.sh false 2 1 0 (encI (v :: l)).length))) outQir_inj hlo) ?_))))))))
      rw [hL]
      rfl
  · rw [if_neg hl]
    refine ⟨⟨why, n, m, d, L⟩, [], ?_, (guessR_nil _ _).symm, Nat.zero_le _, Nat.le_add_right _ _⟩
    cases L with
    | nil =>
      refine goQn ?_
      rw [rkQn_eq, wi]
      exact aT a0 (aT (notNil h0) (gStep e1 (aF (neW _ wN hn) (aF (neW _ wM hm) (aF (neW _ wData hd) (aF (neW _ wList hl) rfl))))))
    | cons v l =>
      refine goQr ?_
      rw [rkQr_eq, wi]
      exact aT a0 (aT (notNil h0) (gStep e1 (aF (neW _ wN hn) (aF (neW _ wM hm) (aF (neW _ wData hd) (aF (neW _ wList hl) rfl))))))
theorem loopQ {t : List UInt8} : ∀ (f : Nat) (rest : List UInt8) (x : An), f ≤ 4 → rest.length ≤ 4000 → x.list.length + 61 * f ≤ 800 → toQ t (guessR f rest x) (stQ t x rest ((4 - f : Nat) : Int))
  | 0, rest, ⟨why, n, m, d, L⟩, _, _, _ => by
    rw [guessR]
    cases L with
    | nil =>
      unfold toQ
      simp only
      refine LoopTo.last (orc := t110) (lo := loQi) (fun _ _ _ _ h => h) loQi_ok (goQn ?_) (by simp [outQn])
      rw [rkQn_eq]
      exact aF rfl rfl
    | cons v l =>
      unfold toQ
      simp only
      refine LoopTo.last (orc := t110) (lo := loQi) (fun _ _ _ _ h => h) loQi_ok (goQr ?_) (by simp [outQr])
      rw [rkQr_eq]
      exact aF rfl rfl
  | f + 1, rest, x, hf, hr, hx => by
    have a0 : decide (((4 - (f + 1) : Nat) : Int) < (4 : Int)) = true := by rw [decide_eq_true_eq]; omega
    by_cases h0 : rest = []
    · subst h0
      rw [guessR_nil]
      obtain ⟨why, n, m, d, L⟩ := x
      cases L with
      | nil =>
        refine LoopTo.last (orc := t110) (lo := loQi) (fun _ _ _ _ h => h) loQi_ok (goQn ?_) (by simp [outQn])
        rw [rkQn_eq]
        exact aT a0 (aF isNilW rfl)
      | cons v l =>
        refine LoopTo.last (orc := t110) (lo := loQi) (fun _ _ _ _ h => h) loQi_ok (goQr ?_) (by simp [outQr])
        rw [rkQr_eq]
        exact aT a0 (aF isNilW rfl)
    · obtain ⟨x', rest', st, hg, hl, hx'⟩ := stepQ (t := t) x rest h0 (4 - (f + 1)) (by omega) hr (by omega) f
      rw [hg]
      have ih := loopQ (t := t) f rest' x' (by omega) (by omega) (by omega)
      rw [show 4 - (f + 1) + 1 = 4 - f by omega] at st
      unfold toQ at ih ⊢
      cases hy : (guessR f rest' x').list with
      | nil =>
        rw [hy] at ih
        exact LoopTo.more (orc := t110) (lo := loQi) (fun _ _ _ _ h => h) loQi_ok st ih
      | cons v l =>
        rw [hy] at ih
        exact LoopTo.more (orc := t110) (lo := loQi) (fun _ _ _ _ h => h) loQi_ok st ih
end Go.Eng
end

/- Lines as answers: the document's Parse is refA; ShowParse's law answers true. -/
section
namespace Go.Eng
open Go
set_option maxRecDepth 100000
set_option linter.unusedSimpArgs false

theorem fQt_eq (s : ByteArray) : (fQt s).ev =
 (rGet (fnS (fun (p : ByteArray × ByteArray) => ((AV.tup [(AV.dat (D.str p.1)), (AV.dat (D.str p.2))]), [])) (P123 [(AV.dat (D.str s))] [])) fun x1 =>
 (rGet (fnS (fun (p : ByteArray × ByteArray) => ((AV.tup [(AV.dat (D.str p.1)), (AV.dat (D.str p.2))]), [])) (P123 [(AV.dat (D.str x1.2))] [])) fun x2 =>
 (rGet (fnS (fun (n : Int) => ((AV.dat (D.int IntKind.i64 n)), [])) (P124 [(AV.dat (D.str x2.1))] [])) fun x3 =>
 (rAsk (Option.isSome (loS TT (TOrc.runs t110) (HSp 10) lpQ (outQn (AV.dat (D.str s)) (AV.dat (D.int IntKind.i64 x3))) (St.mk (mkT 0 118 [(0, (AV.dat (D.str s))), (2, (AV.ptr (Ref.loc 0) 0)), (4, (AV.ptr (Ref.loc 1) 0)), (6, (AV.dat (D.str x2.2))), (7, (AV.dat (D.int IntKind.i64 (0 : Int))))]) (Mem.mk [(Option.some (Ent.obj [(AV.dat (D.int IntKind.i64 (0 : Int))), (AV.dat (D.int IntKind.i64 (0 : Int))), (AV.dat (D.int IntKind.i64 (0 : Int))), (AV.dat (D.str (ByteArray.mk (List.toArray [])))), (AV.dat (D.list LK.nil 0 ([] : Row)))])), (Option.some (Ent.obj [(AV.dat (D.int IntKind.i64 x3)), (AV.dat (D.int IntKind.i64 (0 : Int))), (AV.dat (D.int IntKind.i64 (0 : Int))), (AV.dat (D.str (ByteArray.mk (List.toArray [])))), (AV.dat (D.list LK.nil 0 ([] : Row)))]))] [] 0))))
 (rGet (loS TT (TOrc.runs t110) (HSp 10) lpQ (outQn (AV.dat (D.str s)) (AV.dat (D.int IntKind.i64 x3))) (St.mk (mkT 0 118 [(0, (AV.dat (D.str s))), (2, (AV.ptr (Ref.loc 0) 0)), (4, (AV.ptr (Ref.loc 1) 0)), (6, (AV.dat (D.str x2.2))), (7, (AV.dat (D.int IntKind.i64 (0 : Int))))]) (Mem.mk [(Option.some (Ent.obj [(AV.dat (D.int IntKind.i64 (0 : Int))), (AV.dat (D.int IntKind.i64 (0 : Int))), (AV.dat (D.int IntKind.i64 (0 : Int))), (AV.dat (D.str (ByteArray.mk (List.toArray [])))), (AV.dat (D.list LK.nil 0 ([] : Row)))])), (Option.some (Ent.obj [(AV.dat (D.int IntKind.i64 x3)), (AV.dat (D.int IntKind.i64 (0 : Int))), (AV.dat (D.int IntKind.i64 (0 : Int))), (AV.dat (D.str (ByteArray.mk (List.toArray [])))), (AV.dat (D.list LK.nil 0 ([] : Row)))]))] [] 0))) fun x4 =>
 (rGet (fnS (fun (p : ByteArray × Int) => ((AV.tup [(AV.dat (D.str p.1)), (AV.dat (D.int IntKind.i64 p.2))]), [])) (P107 [(AV.agg [(AV.dat (D.int IntKind.i64 x3)), (AV.dat (D.int IntKind.i64 x4.1)), (AV.dat (D.int IntKind.i64 x4.2.1)), (AV.dat (D.str x4.2.2)), (AV.dat (D.list LK.nil 0 ([] : Row)))])] [])) fun x5 =>
 (rAsk (x5.2 != (0 : Int))
 (some ((AV.tup [(AV.agg [(AV.dat (D.int IntKind.i64 (0 : Int))), (AV.dat (D.int IntKind.i64 (0 : Int))), (AV.dat (D.int IntKind.i64 (0 : Int))), (AV.dat (D.str (ByteArray.mk (List.toArray [])))), (AV.dat (D.list LK.nil 0 ([] : Row)))]), (AV.dat (D.int IntKind.i64 (6 : Int)))]), []))
 (rAsk (!((ByteArray.toList x5.1) == (ByteArray.toList s)))
 (some ((AV.tup [(AV.agg [(AV.dat (D.int IntKind.i64 (0 : Int))), (AV.dat (D.int IntKind.i64 (0 : Int))), (AV.dat (D.int IntKind.i64 (0 : Int))), (AV.dat (D.str (ByteArray.mk (List.toArray [])))), (AV.dat (D.list LK.nil 0 ([] : Row)))]), (AV.dat (D.int IntKind.i64 (6 : Int)))]), []))
 (rGet (fnS (fun (b : Bool) => ((AV.dat (D.bool b)), [])) (P109 [(AV.agg [(AV.dat (D.int IntKind.i64 x3)), (AV.dat (D.int IntKind.i64 x4.1)), (AV.dat (D.int IntKind.i64 x4.2.1)), (AV.dat (D.str x4.2.2)), (AV.dat (D.list LK.nil 0 ([] : Row)))]), (AV.agg [(AV.dat (D.int IntKind.i64 x3)), (AV.dat (D.int IntKind.i64 x4.1)), (AV.dat (D.int IntKind.i64 x4.2.1)), (AV.dat (D.str x4.2.2)), (AV.dat (D.list LK.nil 0 ([] : Row)))])] [])) fun x6 =>
 (rAsk (!x6)
 (some ((AV.tup [(AV.agg [(AV.dat (D.int IntKind.i64 (0 : Int))), (AV.dat (D.int IntKind.i64 (0 : Int))), (AV.dat (D.int IntKind.i64 (0 : Int))), (AV.dat (D.str (ByteArray.mk (List.toArray [])))), (AV.dat (D.list LK.nil 0 ([] : Row)))]), (AV.dat (D.int IntKind.i64 (6 : Int)))]), []))
 (some ((AV.tup [(AV.agg [(AV.dat (D.int IntKind.i64 x3)), (AV.dat (D.int IntKind.i64 x4.1)), (AV.dat (D.int IntKind.i64 x4.2.1)), (AV.dat (D.str x4.2.2)), (AV.dat (D.list LK.nil 0 ([] : Row)))]), (AV.dat (D.int IntKind.i64 (0 : Int)))]), []))
 )
 )
 )
 )
 )
 )
 (rGet (loS TT (TOrc.runs t110) (HSp 10) lpQ (outQr (AV.dat (D.str s)) (AV.dat (D.int IntKind.i64 x3))) (St.mk (mkT 0 118 [(0, (AV.dat (D.str s))), (2, (AV.ptr (Ref.loc 0) 0)), (4, (AV.ptr (Ref.loc 1) 0)), (6, (AV.dat (D.str x2.2))), (7, (AV.dat (D.int IntKind.i64 (0 : Int))))]) (Mem.mk [(Option.some (Ent.obj [(AV.dat (D.int IntKind.i64 (0 : Int))), (AV.dat (D.int IntKind.i64 (0 : Int))), (AV.dat (D.int IntKind.i64 (0 : Int))), (AV.dat (D.str (ByteArray.mk (List.toArray [])))), (AV.dat (D.list LK.nil 0 ([] : Row)))])), (Option.some (Ent.obj [(AV.dat (D.int IntKind.i64 x3)), (AV.dat (D.int IntKind.i64 (0 : Int))), (AV.dat (D.int IntKind.i64 (0 : Int))), (AV.dat (D.str (ByteArray.mk (List.toArray [])))), (AV.dat (D.list LK.nil 0 ([] : Row)))]))] [] 0))) fun x7 =>
 (rGet (fnS (fun (p : ByteArray × Int) => ((AV.tup [(AV.dat (D.str p.1)), (AV.dat (D.int IntKind.i64 p.2))]), [])) (P107 [(AV.agg [(AV.dat (D.int IntKind.i64 x3)), (AV.dat (D.int IntKind.i64 x7.1)), (AV.dat (D.int IntKind.i64 x7.2.1)), (AV.dat (D.str x7.2.2.1)), (AV.dat (D.list LK.any 1 (List.take (List.length x7.2.2.2) (List.drop 0 x7.2.2.2))))])] [])) fun x8 =>
 (rAsk (x8.2 != (0 : Int))
 (some ((AV.tup [(AV.agg [(AV.dat (D.int IntKind.i64 (0 : Int))), (AV.dat (D.int IntKind.i64 (0 : Int))), (AV.dat (D.int IntKind.i64 (0 : Int))), (AV.dat (D.str (ByteArray.mk (List.toArray [])))), (AV.dat (D.list LK.nil 0 ([] : Row)))]), (AV.dat (D.int IntKind.i64 (6 : Int)))]), []))
 (rAsk (!((ByteArray.toList x8.1) == (ByteArray.toList s)))
 (some ((AV.tup [(AV.agg [(AV.dat (D.int IntKind.i64 (0 : Int))), (AV.dat (D.int IntKind.i64 (0 : Int))), (AV.dat (D.int IntKind.i64 (0 : Int))), (AV.dat (D.str (ByteArray.mk (List.toArray [])))), (AV.dat (D.list LK.nil 0 ([] : Row)))]), (AV.dat (D.int IntKind.i64 (6 : Int)))]), []))
 (rGet (fnS (fun (b : Bool) => ((AV.dat (D.bool b)), [])) (P109 [(AV.agg [(AV.dat (D.int IntKind.i64 x3)), (AV.dat (D.int IntKind.i64 x7.1)), (AV.dat (D.int IntKind.i64 x7.2.1)), (AV.dat (D.str x7.2.2.1)), (AV.dat (D.list LK.any 1 (List.take (List.length x7.2.2.2) (List.drop 0 x7.2.2.2))))]), (AV.agg [(AV.dat (D.int IntKind.i64 x3)), (AV.dat (D.int IntKind.i64 x7.1)), (AV.dat (D.int IntKind.i64 x7.2.1)), (AV.dat (D.str x7.2.2.1)), (AV.dat (D.list LK.any 1 (List.take (List.length x7.2.2.2) (List.drop 0 x7.2.2.2))))])] [])) fun x9 =>
 (rAsk (!x9)
 (some ((AV.tup [(AV.agg [(AV.dat (D.int IntKind.i64 (0 : Int))), (AV.dat (D.int IntKind.i64 (0 : Int))), (AV.dat (D.int IntKind.i64 (0 : Int))), (AV.dat (D.str (ByteArray.mk (List.toArray [])))), (AV.dat (D.list LK.nil 0 ([] : Row)))]), (AV.dat (D.int IntKind.i64 (6 : Int)))]), []))
 (some ((AV.tup [(AV.agg [(AV.dat (D.int IntKind.i64 x3)), (AV.dat (D.int IntKind.i64 x7.1)), (AV.dat (D.int IntKind.i64 x7.2.1)), (AV.dat (D.str x7.2.2.1)), (AV.dat (D.list LK.any 1 (List.take (List.length x7.2.2.2) (List.drop 0 x7.2.2.2))))]), (AV.dat (D.int IntKind.i64 (0 : Int)))]), []))
 )
 )
 )
 )
 )
 )
 )
 )
 )
 )
  := by kernel_rfl
theorem fPt_eq (s : ByteArray) : (fPt s).ev =
 (rAsk (decide ((((ByteArray.size s) : Nat) : Int) > (1500 : Int)))
 (rGet (fnS (fun (x : Unit) => ((AV.dat (D.bool true)), [])) (P105 [] [])) fun _ =>
 (some ((AV.dat (D.bool true)), []))
 )
 (rGet (fnS (fun (p : TA × Int) => ((AV.tup [(AV.agg [(AV.dat (D.int IntKind.i64 p.1.1)), (AV.dat (D.int IntKind.i64 p.1.2.1)), (AV.dat (D.int IntKind.i64 p.1.2.2.1)), (AV.dat (D.str p.1.2.2.2.1)), (AV.dat (D.list p.1.2.2.2.2.1 p.1.2.2.2.2.2.1 p.1.2.2.2.2.2.2))]), (AV.dat (D.int IntKind.i64 p.2))]), [])) (P108 [(AV.dat (D.str s))] [])) fun x2 =>
 (rGet (fnS (fun (p : TA × Int) => ((AV.tup [(AV.agg [(AV.dat (D.int IntKind.i64 p.1.1)), (AV.dat (D.int IntKind.i64 p.1.2.1)), (AV.dat (D.int IntKind.i64 p.1.2.2.1)), (AV.dat (D.str p.1.2.2.2.1)), (AV.dat (D.list p.1.2.2.2.2.1 p.1.2.2.2.2.2.1 p.1.2.2.2.2.2.2))]), (AV.dat (D.int IntKind.i64 p.2))]), [])) (P110 [(AV.dat (D.str s))] [])) fun x3 =>
 (rGet (fnS (fun (b : Bool) => ((AV.dat (D.bool b)), [])) (P109 [(AV.agg [(AV.dat (D.int IntKind.i64 x2.1.1)), (AV.dat (D.int IntKind.i64 x2.1.2.1)), (AV.dat (D.int IntKind.i64 x2.1.2.2.1)), (AV.dat (D.str x2.1.2.2.2.1)), (AV.dat (D.list x2.1.2.2.2.2.1 x2.1.2.2.2.2.2.1 x2.1.2.2.2.2.2.2))]), (AV.agg [(AV.dat (D.int IntKind.i64 x3.1.1)), (AV.dat (D.int IntKind.i64 x3.1.2.1)), (AV.dat (D.int IntKind.i64 x3.1.2.2.1)), (AV.dat (D.str x3.1.2.2.2.1)), (AV.dat (D.list x3.1.2.2.2.2.1 x3.1.2.2.2.2.2.1 x3.1.2.2.2.2.2.2))])] [])) fun x4 =>
 (rAsk (!x4)
 (some ((AV.dat (D.bool false)), []))
 (rAsk (x2.2 != x3.2)
 (some ((AV.dat (D.bool false)), []))
 (rGet (fnS (fun (p : ByteArray × Int) => ((AV.tup [(AV.dat (D.str p.1)), (AV.dat (D.int IntKind.i64 p.2))]), [])) (P106 [(AV.agg [(AV.dat (D.int IntKind.i64 x2.1.1)), (AV.dat (D.int IntKind.i64 x2.1.2.1)), (AV.dat (D.int IntKind.i64 x2.1.2.2.1)), (AV.dat (D.str x2.1.2.2.2.1)), (AV.dat (D.list x2.1.2.2.2.2.1 x2.1.2.2.2.2.2.1 x2.1.2.2.2.2.2.2))])] [])) fun x5 =>
 (rAsk (x3.2 != (0 : Int))
 (rGet (fnS (fun (x : Unit) => ((AV.dat (D.bool true)), [])) (P105 [] [])) fun _ =>
 (some ((AV.dat (D.bool true)), []))
 )
 (rAsk ((ByteArray.toList x5.1) == (ByteArray.toList s))
 (rAsk (x5.2 == (0 : Int))
 (rGet (fnS (fun (x : Unit) => ((AV.dat (D.bool true)), [])) (P105 [] [])) fun _ =>
 (some ((AV.dat (D.bool true)), []))
 )
 (some ((AV.dat (D.bool false)), []))
 )
 (some ((AV.dat (D.bool false)), []))
 )
 )
 )
 )
 )
 )
 )
 )
 )
  := by kernel_rfl
/-! ### contracts -/
theorem loW23_ok : ∀ c, Go.Proofs.Tryd.f23.body = some c → LoOk2 TT tNone.runs (HSp 23) lo23 c := lo_one (lp := lp23) (by kernel_rfl) fun st r h => by
  rw [show firstRegion lp23 = 2 from by kernel_rfl] at h
  exact tlo2_ok h
theorem cW23 : COk PP 23 R123 := tok_fn (H := HSp 23) TT_ok TOk.nil Go.Proofs.Tryd.func23 (by kernel_rfl) loW23_ok
theorem loW24_ok : ∀ c, Go.Proofs.Tryd.f24.body = some c → LoOk2 TT tNone.runs (HSp 24) lo24 c := lo_one (lp := lp24) (by kernel_rfl) fun st r h => by
  rw [show firstRegion lp24 = 6 from by kernel_rfl] at h
  exact tlo_ok h
theorem cW24 : COk PP 24 R124 := tok_fn (H := HSp 24) TT_ok TOk.nil Go.Proofs.Tryd.func24 (by kernel_rfl) loW24_ok
theorem loW25_ok : ∀ c, Go.Proofs.Tryd.f25.body = some c → LoOk2 TT tNone.runs (HSp 25) lo25 c := lo_one (lp := lp25) (by kernel_rfl) fun st r h => by
  rw [show firstRegion lp25 = 2 from by kernel_rfl] at h
  exact tlo2_ok h
theorem cW25 : COk PP 25 R125 := tok_fn (H := HSp 25) TT_ok TOk.nil Go.Proofs.Tryd.func25 (by kernel_rfl) loW25_ok
theorem t110_ok : TOk PP t110 := TOk.cons (COk.spec (out := fun _ G => oWw G) cW23.pure) (TOk.cons (COk.spec (out := fun _ G => oI G) cW24.pure) (TOk.cons (COk.spec (out := fun _ G => oWw G) cW25.pure) (TOk.cons (COk.spec (out := fun _ G => oLg G) c9.pure) (TOk.cons (COk.spec (out := fun _ G => oLn G) cW7.pure) (TOk.cons (COk.spec (out := fun _ G => oB G) cW9.pure) TOk.nil)))))
theorem loQ_ok : ∀ c, Go.Proofs.Tryd.f10.body = some c → LoOk2 TT t110.runs (HSp 10) loQ c := lo_one (lp := lpQ) (by kernel_rfl) fun st r h => by
  rw [show firstRegion lpQ = 6 from by kernel_rfl] at h
  exact tlo2_ok h
theorem cW10 : COk PP 10 R110 := tok_fn (H := HSp 10) TT_ok t110_ok Go.Proofs.Tryd.func10 (by kernel_rfl) loQ_ok
theorem t104_ok : TOk PP t104 := TOk.cons (COk.spec (out := fun _ G => oT G) (E_ok 5).pure) (TOk.cons (COk.spec (out := fun _ G => oLn G) cW6.pure) (TOk.cons (COk.spec (out := fun _ G => oPr G) cW10.pure) (TOk.cons (COk.spec (out := fun _ G => oPr G) cW8.pure) (TOk.cons (COk.spec (out := fun _ G => oB G) cW9.pure) TOk.nil))))
theorem cW4 : COk PP 4 R104 := tok_fn (H := fun _ => []) TT_ok t104_ok Go.Proofs.Tryd.func4 (by kernel_rfl) fun _ _ => LoOk2.no _

theorem outQn_inj {a b : AV} : ∀ x y, outQn a b x = outQn a b y → x = y := by
  rintro ⟨x, y, z⟩ ⟨x', y', z'⟩ h
  simp [outQn, objW, mkT, jn] at h
  obtain ⟨rfl, rfl, rfl⟩ := h
  rfl
theorem outQr_inj {a b : AV} : ∀ x y, outQr a b x = outQr a b y → x = y := by
  rintro ⟨x, y, z, q⟩ ⟨x', y', z', q'⟩ h
  simp [outQr, objW, mkT, jn] at h
  obtain ⟨⟨rfl, rfl, rfl, _⟩, rfl⟩ := h
  rfl
theorem outQ_no {a b : AV} {y : Int × Int × ByteArray × Row} : ∀ x, outQn a b x ≠ outQr a b y := fun x h => by simp [outQn, outQr] at h
attribute [local irreducible] fnS loS tround P105 P106 P107 P108 P109 P123 P124 P125 P126
theorem list_le {x : An} {s : List UInt8} (h : lineP x = some s) : x.list.length ≤ 60 := by
  unfold lineP at h
  split at h
  · rename_i ho
    exact (okA_parts ho).2
  · cases h
theorem f10_run' {t : List UInt8} (h : t.length ≤ 4000) : R110 [.dat (.str (ba t))] [] = some (oPr [] (prOf (refA t))) := by
  have key : ∀ o, (fQt (ba t)).ev = o → R110 [.dat (.str (ba t))] [] = o := fun o h => by
    rw [Tr.ev_run] at h
    exact h
  refine key _ ?_
  rw [fQt_eq]
  have l1 := wordR_len t
  have l2 := wordR_len (wordR t).2
  have e1 := fnS_eq (out := oWw []) oWw_inj (p123 h [])
  have e2 := fnS_eq (out := oWw []) oWw_inj (p123 (s := (wordR t).2) (by omega) [])
  have e3 := fnS_eq (out := oI []) oI_injW (p124 (wordR (wordR t).2).1 [])
  have hl := loopQ (t := t) 4 (wordR (wordR t).2).2 ⟨numR (wordR (wordR t).2).1, 0, 0, [], []⟩ (by omega) (by omega) (by simp)
  have hw : (refG t).why = numR (wordR (wordR t).2).1 := guessR_why _ _ _
  have hf : fitA (refG t) := guessR_fit _ _ _ ⟨numR_fit _, an0_fit.2⟩
  unfold refA
  rw [← hw] at e3
  change toQ t (refG t) (stQ t ⟨numR (wordR (wordR t).2).1, 0, 0, [], []⟩ (wordR (wordR t).2).2 0) at hl
  rw [← hw] at hl
  generalize refG t = y at *
  refine gStep e1 (gStep e2 (gStep e3 ?_))
  obtain ⟨why, n, m, d, L⟩ := y
  cases L with
  | nil =>
    have hlo : LoopTo TT t110.runs (HSp 10) lpQ (stQ t ⟨why, 0, 0, [], []⟩ (wordR (wordR t).2).2 0) (outQn (.dat (.str (ba t))) (jn why) (n, m, ba d)) := hl
    have e7 := fnS_eq (out := oLn []) oLn_inj (p107 (x := ⟨why, n, m, d, []⟩) (k := .nil) (z := 0) hf (fun h => absurd rfl h) [])
    have e9 := fnS_eq (out := oB []) oB_inj (p109 (x := ⟨why, n, m, d, []⟩) (k := .nil) (k' := .nil) (z := 0) (z' := 0) (by simp) (fun h => absurd rfl h) [])
    refine aT (loS_yes (o1 := outQn (.dat (.str (ba t))) (jn why)) outQn_inj hlo) (gStep (loS_eq (out := outQn (.dat (.str (ba t))) (jn why)) outQn_inj hlo) (gStep e7 ?_))
    cases hp : lineP ⟨why, n, m, d, []⟩ with
    | none =>
      rw [if_neg (by simp)]
      exact aT rfl rfl
    | some s =>
      refine aF rfl ?_
      by_cases hs : s = t
      · subst hs
        rw [if_pos rfl]
        exact aF (by show (!((ba s).toList == (ba s).toList)) = false; rw [sameB]; simp) (gStep e9 (aF rfl rfl))
      · rw [if_neg (by simpa using hs)]
        exact aT (by show (!((ba s).toList == (ba t).toList)) = true; rw [sameB]; simp [hs]) rfl
  | cons v l =>
    have hlo : LoopTo TT t110.runs (HSp 10) lpQ (stQ t ⟨why, 0, 0, [], []⟩ (wordR (wordR t).2).2 0) (outQr (.dat (.str (ba t))) (jn why) (n, m, ba d, encI (v :: l))) := hl
    have hq : List.take (List.length (encI (v :: l))) (List.drop 0 (encI (v :: l))) = encI (v :: l) := by rw [List.drop_zero, List.take_length]
    have e7 := fnS_eq (out := oLn []) oLn_inj (p107 (x := ⟨why, n, m, d, v :: l⟩) (k := .any) (z := 1) hf (fun _ => rfl) [])
    refine aF (loS_no (o1 := outQn (.dat (.str (ba t))) (jn why)) hlo outQ_no) (gStep (loS_eq (out := outQr (.dat (.str (ba t))) (jn why)) outQr_inj hlo) ?_)
    dsimp only
    rw [hq]
    refine gStep e7 ?_
    cases hp : lineP ⟨why, n, m, d, v :: l⟩ with
    | none =>
      rw [if_neg (by simp)]
      exact aT rfl rfl
    | some s =>
      have e9 := fnS_eq (out := oB []) oB_inj (p109 (x := ⟨why, n, m, d, v :: l⟩) (k := .any) (k' := .any) (z := 1) (z' := 1) (Nat.le_trans (list_le hp) (by omega)) (fun _ => ⟨rfl, rfl⟩) [])
      refine aF rfl ?_
      by_cases hs : s = t
      · subst hs
        rw [if_pos rfl]
        exact aF (by show (!((ba s).toList == (ba s).toList)) = false; rw [sameB]; simp) (gStep e9 (aF rfl rfl))
      · rw [if_neg (by simpa using hs)]
        exact aT (by show (!((ba s).toList == (ba t).toList)) = true; rw [sameB]; simp [hs]) rfl
theorem p110 {t : List UInt8} (h : t.length ≤ 4000) (G : List Ent) : P110 [.dat (.str (ba t))] G = some (oPr G (prOf (refA t))) := by
  unfold P110
  refine pureS_eq rfl (f10_run' h) ?_
  cases refA t <;> rfl
attribute [local irreducible] P110
theorem f4_run (a : ByteArray) : R104 [.dat (.str a)] [] = some (.dat (.bool true), []) := by
  obtain ⟨t, rfl⟩ : ∃ t, a = ba t := ⟨_, ba_of a⟩
  have key : ∀ o, (fPt (ba t)).ev = o → R104 [.dat (.str (ba t))] [] = o := fun o h => by
    rw [Tr.ev_run] at h
    exact h
  refine key _ ?_
  rw [fPt_eq, ba_sz]
  have e5 := fnS_eq (out := oT []) oT_inj (p105 (G := []))
  by_cases h1 : t.length > 1500
  · exact aT (by rw [decide_eq_true_eq]; omega) (gStep e5 rfl)
  refine aF (by rw [decide_eq_false_iff_not]; omega) ?_
  have e8 := fnS_eq (out := oPr []) oPr_inj (p108 (t := t) (by omega) [])
  have e10 := fnS_eq (out := oPr []) oPr_inj (p110 (t := t) (by omega) [])
  rw [← show_eq t] at e10
  cases hp : progA t with
  | none =>
    rw [hp] at e8 e10
    have e9 := fnS_eq (out := oB []) oB_inj (p109 (x := an0) (k := .nil) (k' := .nil) (z := 0) (z' := 0) (by decide) (fun h => absurd rfl h) [])
    have e6 := fnS_eq (out := oLn []) oLn_inj (p106 (x := an0) (k := .nil) (z := 0) an0_fit (fun h => absurd rfl h) [])
    exact gStep e8 (gStep e10 (gStep e9 (aF rfl (aF rfl (gStep e6 (aT rfl (gStep e5 rfl)))))))
  | some x =>
    obtain ⟨hf, hl⟩ := progA_fit hp
    rw [hp] at e8 e10
    have hk := list_le hl
    have e9 := fnS_eq (out := oB []) oB_inj (p109 (x := x) (k := if x.list = [] then .nil else .any) (k' := if x.list = [] then .nil else .any) (z := if x.list = [] then 0 else 1) (z' := if x.list = [] then 0 else 1) (by omega) (fun h => ⟨if_neg h, if_neg h⟩) [])
    have e6 := fnS_eq (out := oLn []) oLn_inj (p106 (x := x) (k := if x.list = [] then .nil else .any) (z := if x.list = [] then 0 else 1) hf (fun h => if_neg h) [])
    rw [hl] at e6
    exact gStep e8 (gStep e10 (gStep e9 (aF rfl (aF rfl (gStep e6 (aF rfl (aT (by show ((ba t).toList == (ba t).toList) = true; rw [sameB]; simp) (aT rfl (gStep e5 rfl)))))))))
end Go.Eng
end
