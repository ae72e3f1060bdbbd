/- Sets of runs: the contract of the program's Parse; the document's number, Of, Text and Parse, as trees. -/
import Derived.Test.YtablkigmdginoaaDoorRo29
import Derived.Test.YtablkigmdginoaaDoorRo30
section
namespace Go.Eng
open Go
set_option maxRecDepth 100000
set_option linter.unusedSimpArgs false

theorem t10_ok : TOk PP t10 := TOk.cons (COk.spec (out := fun _ G => oRw G) c23) (TOk.cons (COk.spec (out := fun _ G => oRn G) c24.pure) (TOk.cons (COk.spec (out := fun _ G => oW G) c7.pure) (TOk.cons (COk.spec (out := fun _ G => oS G) c12.pure) TOk.nil)))
theorem lo10_ok : ∀ c, Go.Proofs.Tryd.f10.body = some c → LoOk2 TT t10.runs (HSq 10) lo10 c := by
  intro c hc
  refine LoOk2.of c fun b hb st r h => ?_
  have hcc : c = codeOf Go.Proofs.Tryd.f10 := by unfold codeOf; rw [hc]; rfl
  have hl : loops c = [lp10] := by rw [hcc]; kernel_rfl
  rw [hl] at hb
  obtain rfl := List.mem_singleton.1 hb
  rw [show firstRegion lp10 = 5 from by kernel_rfl] at h
  exact tlo3_ok h
theorem c10 : COk PP 10 R10 := tok_fn (H := HSq 10) TT_ok t10_ok Go.Proofs.Tryd.func10 (by kernel_rfl) lo10_ok

def HSr (f : Nat) : Nat → List Nat := match f with
  | 25 => hOfS [(2, [0, 1, 6]), (1000002, [1, 6])]
  | 16 => hOfS [(3, [1, 3, 4]), (1000003, [3])]
  | 17 => hOfS [(4, [3, 4, 5]), (1000004, [3])]
  | 11 => hOfS [(3, [0, 2, 4, 5]), (1000003, [0, 2, 3, 4]), (9, [0, 2, 4, 7, 8, 9]), (1000009, [0, 2, 4, 7])]
  | _ => fun _ => []
/-! ### number -/
noncomputable def lp25 : Code := lpOf (codeOf Go.Proofs.Tryd.f25) 0
def inv25 (s : ByteArray) (i n : Int) : St := ⟨mkT 0 39 [(0, .dat (.str s)), (1, jn i), (6, jn n)], ⟨[], [], 0⟩⟩
noncomputable def rk25 (s : ByteArray) (i n : Int) : Tr (Ex × St) := tround TT tNone noLo (HSr 25) lp25 (inv25 s i n)
def out25 (p : Int × Int) : Ex × St := (.exit 0, ⟨mkT 0 39 [(1, jn p.2), (6, jn p.1)], ⟨[], [], 0⟩⟩)
noncomputable def lo25 (n : Nat) (st : St) : Tr (Ex × St) := match n with
  | 2 => tlo TT tNone.runs (HSr 25) lp25 out25 st
  | _ => .fail
noncomputable def f25t (s : ByteArray) (i : Int) : Tr (AV × List Ent) := tfn TT tNone lo25 Go.Proofs.Tryd.f25 [.dat (.str s), jn i] []
noncomputable def R25 (a : List AV) (G : List Ent) : Option (AV × List Ent) := (tfn TT tNone lo25 Go.Proofs.Tryd.f25 a G).run
noncomputable def P25 := pureS R25
def oN2 (G : List Ent) (p : Int × Int) : AV × List Ent := (.tup [jn p.1, jn p.2], G)
/-! ### Of -/
noncomputable def P29 := pureS (E 29)
noncomputable def P30 := pureS (E 30)
def oB (G : List Ent) (b : Bool) : AV × List Ent := (.dat (.bool b), G)
noncomputable def t16 : TOrc := tCons 29 (fun a G => tspec (oB G) (P29 a G)) tNone
noncomputable def lp16 : Code := lpOf (codeOf Go.Proofs.Tryd.f16) 0
def inv16n (a b : Int) (i : Int) : St := ⟨mkT 0 37 [(1, .ptr (.loc 0) 0), (3, .dat (.list .nil 0 [])), (4, jn i)], ⟨[ob2 a b], [], 0⟩⟩
def inv16r (a b : Int) (r : Row) (i : Int) : St := ⟨mkT 0 37 [(1, .ptr (.loc 0) 0), (3, .sh false 1 2 0 r.length), (4, jn i)], ⟨[ob2 a b, some (.row .excl 2 r)], [], 0⟩⟩
noncomputable def rk16n (a b i : Int) : Tr (Ex × St) := tround TT t16 noLo (HSr 16) lp16 (inv16n a b i)
noncomputable def rk16r (a b : Int) (r : Row) (i : Int) : Tr (Ex × St) := tround TT t16 noLo (HSr 16) lp16 (inv16r a b r i)
noncomputable def f16p (op : St → Option (Ex × St)) (a b : Int) : Tr (AV × List Ent) := tfn TT t16 (fun n st => .get (op (tidy (HSr 16 n) st)) fun x => .ret x) Go.Proofs.Tryd.f16 [st2 a b] []
end Go.Eng
end

/- Sets of runs: the document's Of, in plain terms; numbers that are asked. -/
section
namespace Go.Eng
open Go
set_option maxRecDepth 100000
set_option linter.unusedSimpArgs false

theorem runE_snoc (i : Nat) : ∀ (l : List Nat) (r : Nat × Nat), runE (l ++ [i]) r =
    if (runE l r).2.2 > 0 ∧ i = (runE l r).2.1 + (runE l r).2.2 then ((runE l r).1, ((runE l r).2.1, (runE l r).2.2 + 1))
    else if (runE l r).2.2 > 0 then ((runE l r).1 ++ [(runE l r).2], (i, 1)) else ((runE l r).1, (i, 1))
  | [], r => by
    show runE [i] r = if r.2 > 0 ∧ i = r.1 + r.2 then ([], (r.1, r.2 + 1)) else if r.2 > 0 then ([r], (i, 1)) else ([], (i, 1))
    rfl
  | k :: l, r => by
    rw [List.cons_append]
    unfold runE
    split
    · exact runE_snoc i l _
    · split
      · rw [runE_snoc i l]
        split
        · rfl
        · split
          · rfl
          · rfl
      · exact runE_snoc i l _
def numsU (s : Nat × Nat) (i : Nat) : List Nat := (List.range i).filter (hasB s)
theorem numsU_yes {s : Nat × Nat} {i : Nat} (h : hasB s i = true) : numsU s (i + 1) = numsU s i ++ [i] := by
  simp [numsU, List.range_succ, h]
theorem numsU_no {s : Nat × Nat} {i : Nat} (h : hasB s i = false) : numsU s (i + 1) = numsU s i := by
  simp [numsU, List.range_succ, h]
def runsU (s : Nat × Nat) (i : Nat) : List (Nat × Nat) := runsN (numsU s i) (0, 0)
theorem runsU_all (s : Nat × Nat) : runsU s 128 = runsB s := by
  unfold runsU runsB
  rw [nums_eq]
  rfl
theorem invU (s : Nat × Nat) : ∀ i : Nat, ((runE (numsU s i) (0, 0)).2.2 = 0 ∧ ∀ j < i, hasB s j = false) ∨
    (0 < (runE (numsU s i) (0, 0)).2.2 ∧ (runE (numsU s i) (0, 0)).2.1 + (runE (numsU s i) (0, 0)).2.2 ≤ i ∧ hasB s ((runE (numsU s i) (0, 0)).2.1 + (runE (numsU s i) (0, 0)).2.2 - 1) = true ∧
      ∀ j, (runE (numsU s i) (0, 0)).2.1 + (runE (numsU s i) (0, 0)).2.2 ≤ j → j < i → hasB s j = false)
  | 0 => .inl ⟨rfl, fun j hj => by omega⟩
  | i + 1 => by
    have ih := invU s i
    cases h : hasB s i with
    | false =>
      rw [numsU_no h]
      rcases ih with ⟨h0, h1⟩ | ⟨h0, h1, h2, h3⟩
      · refine .inl ⟨h0, fun j hj => ?_⟩
        rcases Nat.lt_succ_iff_lt_or_eq.1 hj with hj | rfl
        · exact h1 j hj
        · exact h
      · refine .inr ⟨h0, by omega, h2, fun j h4 hj => ?_⟩
        rcases Nat.lt_succ_iff_lt_or_eq.1 hj with hj | rfl
        · exact h3 j h4 hj
        · exact h
    | true =>
      rw [numsU_yes h, runE_snoc]
      generalize runE (numsU s i) (0, 0) = e at ih
      refine .inr ?_
      split
      · rename_i q
        refine ⟨by simp, by simp only; omega, ?_, fun j h4 hj => by simp only at h4; omega⟩
        simp only
        rw [show e.2.1 + (e.2.2 + 1) - 1 = i by omega]
        exact h
      · split
        · exact ⟨by simp, by simp, by simpa using h, fun j h4 hj => by simp only at h4; omega⟩
        · exact ⟨by simp, by simp, by simpa using h, fun j h4 hj => by simp only at h4; omega⟩
theorem runsU_no {s : Nat × Nat} {i : Nat} (h : hasB s i = false) : runsU s (i + 1) = runsU s i := by
  unfold runsU
  rw [numsU_no h]
theorem runsU_new {s : Nat × Nat} {i : Nat} (h : hasB s i = true) (h0 : i = 0 ∨ hasB s (i - 1) = false) : runsU s (i + 1) = runsU s i ++ [(i, 1)] := by
  unfold runsU
  rw [numsU_yes h, runE_eq, runE_eq (numsU s i), runE_snoc]
  have hi := invU s i
  generalize runE (numsU s i) (0, 0) = e at hi
  have hne : ¬ (e.2.2 > 0 ∧ i = e.2.1 + e.2.2) := by
    rintro ⟨q1, q2⟩
    rcases hi with ⟨q, _⟩ | ⟨_, _, q3, _⟩
    · omega
    · rw [← q2] at q3
      rcases h0 with h0 | h0
      · omega
      · rw [h0] at q3
        cases q3
  rw [if_neg hne]
  split
  · simp
  · simp
theorem runsU_more {s : Nat × Nat} {i : Nat} (h : hasB s i = true) (hi0 : 0 < i) (h0 : hasB s (i - 1) = true) :
    ∃ l r, runsU s i = l ++ [r] ∧ r.1 + r.2 = i ∧ 0 < r.2 ∧ runsU s (i + 1) = l ++ [(r.1, r.2 + 1)] := by
  unfold runsU
  rw [numsU_yes h, runE_eq, runE_eq (numsU s i ++ [i]), runE_snoc]
  have hi := invU s i
  generalize runE (numsU s i) (0, 0) = e at hi
  rcases hi with ⟨_, q⟩ | ⟨q1, q2, q3, q4⟩
  · rw [q (i - 1) (by omega)] at h0
    cases h0
  · have he : i = e.2.1 + e.2.2 := by
      by_cases q5 : e.2.1 + e.2.2 ≤ i - 1
      · rw [q4 (i - 1) q5 (by omega)] at h0
        cases h0
      · omega
    have hc : e.2.2 > 0 ∧ i = e.2.1 + e.2.2 := ⟨q1, he⟩
    rw [if_pos hc, if_pos q1]
    exact ⟨e.1, e.2, rfl, he.symm, q1, by rw [if_pos (by simp)]⟩

end Go.Eng
end

/- Sets of runs: the document's Of, Text and Parse, as trees. -/
section
namespace Go.Eng
open Go
set_option maxRecDepth 100000

def out16n (_ : Unit) : Ex × St := (.exit 0, ⟨mkT 0 37 [(3, .dat (.list .nil 0 []))], ⟨[], [], 0⟩⟩)
def out16r (r : Row) : Ex × St := (.exit 0, ⟨mkT 0 37 [(3, .sh false 0 2 0 r.length)], ⟨[some (.row .excl 2 r)], [], 0⟩⟩)
noncomputable def lo16 (n : Nat) (st : St) : Tr (Ex × St) := match n with
  | 3 => tlo2 TT t16.runs (HSr 16) lp16 out16n out16r st
  | _ => .fail
noncomputable def f16t (a b : Int) : Tr (AV × List Ent) := tfn TT t16 lo16 Go.Proofs.Tryd.f16 [st2 a b] []
noncomputable def R16 (a : List AV) (G : List Ent) : Option (AV × List Ent) := (tfn TT t16 lo16 Go.Proofs.Tryd.f16 a G).run
noncomputable def P16 := pureS R16
noncomputable def t17 : TOrc := tCons 16 (fun a G => tspec2 (oNl G) (oOw G) (P16 a G)) (tCons 30 (fun a G => tspec (oS G) (P30 a G)) tNone)
noncomputable def f17p (op : St → Option (Ex × St)) (a b : Int) : Tr (AV × List Ent) := tfn TT t17 (fun n st => .get (op (tidy (HSr 17 n) st)) fun x => .ret x) Go.Proofs.Tryd.f17 [st2 a b] []
noncomputable def f11p (op : St → Option (Ex × St)) (s : ByteArray) : Tr (AV × List Ent) := tfn TT tNone (fun n st => .get (op (tidy (HSr 11 n) st)) fun x => .ret x) Go.Proofs.Tryd.f11 [.dat (.str s)] []
end Go.Eng
end

/- Sets of runs: the document's Text and Parse, as trees. -/
section
namespace Go.Eng
open Go
set_option maxRecDepth 100000

/-! ### Text -/
noncomputable def lp17 : Code := lpOf (codeOf Go.Proofs.Tryd.f17) 0
def inv17 (r : Row) (z : ByteArray) (i : Int) : St := ⟨mkT 0 49 [(3, .dat (.str z)), (4, .sh false 0 2 0 r.length), (5, jn i)], ⟨[some (.row .excl 2 r)], [], 0⟩⟩
def inv17z : St := ⟨mkT 0 49 [(3, .dat (.str ⟨#[]⟩)), (4, .dat (.list .nil 0 [])), (5, jn 0)], ⟨[], [], 0⟩⟩
noncomputable def rk17 (r : Row) (z : ByteArray) (i : Int) : Tr (Ex × St) := tround TT t17 noLo (HSr 17) lp17 (inv17 r z i)
noncomputable def rk17z : Tr (Ex × St) := tround TT t17 noLo (HSr 17) lp17 inv17z
def out17 (z : ByteArray) : Ex × St := (.exit 0, ⟨mkT 0 49 [(3, .dat (.str z))], ⟨[], [], 0⟩⟩)
noncomputable def lo17 (n : Nat) (st : St) : Tr (Ex × St) := match n with
  | 4 => tlo TT t17.runs (HSr 17) lp17 out17 st
  | _ => .fail
noncomputable def f17t (a b : Int) : Tr (AV × List Ent) := tfn TT t17 lo17 Go.Proofs.Tryd.f17 [st2 a b] []
noncomputable def R17 (a : List AV) (G : List Ent) : Option (AV × List Ent) := (tfn TT t17 lo17 Go.Proofs.Tryd.f17 a G).run
noncomputable def P17 := pureS R17
/-! ### Parse -/
noncomputable def t11 : TOrc := tCons 25 (fun a G => tspec (oN2 G) (P25 a G)) (tCons 22 (fun a G => tspec (oW G) (P22 a G)) (tCons 17 (fun a G => tspec (oS G) (P17 a G)) tNone))
noncomputable def lp11 : Code := lpOf (codeOf Go.Proofs.Tryd.f11) 0
noncomputable def lp11b : Code := lpOf lp11 0
def inv11b (s : ByteArray) (c d : Int) (a b nx q k : Int) : St := ⟨mkT 0 74 [(0, .dat (.str s)), (2, .ptr (.loc 0) 0), (4, .ptr (.loc 1) 0), (7, jn nx), (8, jn q), (9, jn k)], ⟨[ob2 c d, ob2 a b], [], 0⟩⟩
noncomputable def rk11b (s : ByteArray) (a b nx q k : Int) : Tr (Ex × St) := tround TT t11 noLo (HSr 11) lp11b (inv11b s 0 0 a b nx q k)
def out11b (a0 a7 : AV) (p : Int × Int) : Ex × St := (.exit 2, ⟨mkT 0 74 [(0, a0), (2, .ptr (.loc 0) 0), (4, .ptr (.loc 1) 0), (7, a7)], ⟨[ob2 0 0, ob2 p.1 p.2], [], 0⟩⟩)
noncomputable def lo11b (n : Nat) (st : St) : Tr (Ex × St) := match n with
  | 9 => tlo TT t11.runs (HSr 11) lp11b (out11b (st.tmps.getD 0 .dead) (st.tmps.getD 7 .dead)) st
  | _ => .fail
def inv11 (s : ByteArray) (a b i : Int) : St := ⟨mkT 0 74 [(0, .dat (.str s)), (2, .ptr (.loc 0) 0), (4, .ptr (.loc 1) 0), (5, jn i)], ⟨[ob2 0 0, ob2 a b], [], 0⟩⟩
noncomputable def rk11 (s : ByteArray) (a b i : Int) : Tr (Ex × St) := tround TT t11 lo11b (HSr 11) lp11 (inv11 s a b i)
def out11 (a0 : AV) (p : Int × Int) : Ex × St := (.exit 0, ⟨mkT 0 74 [(0, a0), (2, .ptr (.loc 0) 0), (4, .ptr (.loc 1) 0)], ⟨[ob2 0 0, ob2 p.1 p.2], [], 0⟩⟩)
def out11r (a0 : AV) (p : Int × Int) : Ex × St := (.ret, ⟨mkT 0 74 [(0, a0), (2, .ptr (.loc 0) 0), (3, jn 6), (4, .ptr (.loc 1) 0)], ⟨[ob2 0 0, ob2 p.1 p.2], [], 0⟩⟩)
noncomputable def lo11 (n : Nat) (st : St) : Tr (Ex × St) := match n with
  | 3 => tlo2 TT t11.runs (HSr 11) lp11 (out11 (st.tmps.getD 0 .dead)) (out11r (st.tmps.getD 0 .dead)) st
  | _ => .fail
noncomputable def f11t (s : ByteArray) : Tr (AV × List Ent) := tfn TT t11 lo11 Go.Proofs.Tryd.f11 [.dat (.str s)] []
noncomputable def R11 (a : List AV) (G : List Ent) : Option (AV × List Ent) := (tfn TT t11 lo11 Go.Proofs.Tryd.f11 a G).run
end Go.Eng
end

/- Sets of runs: the document's Has and Num at every number. -/
section
namespace Go.Eng
open Go
set_option maxRecDepth 100000
set_option linter.unusedSimpArgs false

theorem e29_all (a b : Int) : (List.range 128).map (fun i => (E 29 [st2 a b, jn (i : Nat)] []).map (·.1)) = (List.range 128).map (fun i => some (AV.dat (.bool (if i < 64 then hasI a i else hasI b (i - 64))))) := by kernel_rfl
theorem e29_neg (a b : Int) : (E 29 [st2 a b, jn (-1)] []).map (·.1) = some (AV.dat (.bool false)) := by kernel_rfl
theorem some_of {o : Option (AV × List Ent)} {v : AV} (h : o.map (·.1) = some v) : ∃ G, o = some (v, G) := by
  cases o with
  | none => cases h
  | some r =>
    simp only [Option.map_some, Option.some.injEq] at h
    exact ⟨r.2, by rw [← h]⟩
theorem p29 {s : Nat × Nat} (h : fitB s) {i : Nat} (hi : i < 128) (G : List Ent) : P29 [st2 s.1 s.2, jn i] G = some (oB G (hasB s i)) := by
  obtain ⟨G', q⟩ := some_of (map_at (e29_all s.1 s.2) (List.mem_range.2 hi))
  have e : (if i < 64 then hasI s.1 i else hasI s.2 (i - 64)) = hasB s i := by
    unfold hasB
    split
    · exact hasI_nat h.1
    · exact hasI_nat h.2
  rw [e] at q
  unfold P29
  exact pureS_eq rfl q rfl
theorem p29n (s : Nat × Nat) (G : List Ent) : P29 [st2 s.1 s.2, jn (-1)] G = some (oB G false) := by
  obtain ⟨G', q⟩ := some_of (e29_neg s.1 s.2)
  unfold P29
  exact pureS_eq rfl q rfl
theorem e30_all : (List.range 128).map (fun n => (E 30 [jn (n : Nat)] []).map (·.1)) = (List.range 128).map (fun n => some (AV.dat (.str (ba (Go.Lib.decDigits n))))) := by kernel_rfl
theorem p30 {n : Nat} (h : n < 128) (G : List Ent) : P30 [.dat (.int .i64 n)] G = some (oS G (ba (Go.Lib.decDigits n))) := by
  obtain ⟨G', q⟩ := some_of (map_at e30_all (List.mem_range.2 h))
  unfold P30
  exact pureS_eq rfl q rfl
end Go.Eng
end

/- Sets of runs: the document's number is numL, its Of is runsB, its Text is textB. -/
section
namespace Go.Eng
open Go
set_option maxRecDepth 100000
set_option linter.unusedSimpArgs false

theorem rk25_eq (s : ByteArray) (i n : Int) : (rk25 s i n).ev =
  (rAsk (decide (i < (((ByteArray.size s) : Nat) : Int)))
   (rAsk (decide ((0 : Int) ≤ i))
    (rGet s[(Int.toNat i)]? fun x1 =>
     (rAsk (decide ((((UInt8.toNat x1) : Nat) : Int) ≥ (48 : Int)))
      (rAsk (decide ((0 : Int) ≤ i))
       (rGet s[(Int.toNat i)]? fun x2 =>
        (rAsk (decide ((((UInt8.toNat x2) : Nat) : Int) ≤ (57 : Int)))
         (rAsk (decide (n < (1000 : Int)))
          (rAsk (decide ((0 : Int) ≤ i))
           (rGet s[(Int.toNat i)]? fun x3 =>
            (some (Ex.norm, (St.mk (mkT 0 39 [(0, (AV.dat (D.str s))), (1, (AV.dat (D.int IntKind.i64 (IntKind.wrap IntKind.i64 (i + (1 : Int)))))), (6, (AV.dat (D.int IntKind.i64 (IntKind.wrap IntKind.i64 ((IntKind.wrap IntKind.i64 ((10 : Int) * n)) + (IntKind.wrap IntKind.i64 (IntKind.wrap IntKind.u8 ((((UInt8.toNat x3) : Nat) : Int) - (48 : Int)))))))))]) (Mem.mk [] [] 0))))
           )
           none
          )
          (some ((Ex.exit 0), (St.mk (mkT 0 39 [(1, (AV.dat (D.int IntKind.i64 i))), (6, (AV.dat (D.int IntKind.i64 n)))]) (Mem.mk [] [] 0))))
         )
         (some ((Ex.exit 0), (St.mk (mkT 0 39 [(1, (AV.dat (D.int IntKind.i64 i))), (6, (AV.dat (D.int IntKind.i64 n)))]) (Mem.mk [] [] 0))))
        )
       )
       none
      )
      (some ((Ex.exit 0), (St.mk (mkT 0 39 [(1, (AV.dat (D.int IntKind.i64 i))), (6, (AV.dat (D.int IntKind.i64 n)))]) (Mem.mk [] [] 0))))
     )
    )
    none
   )
   (some ((Ex.exit 0), (St.mk (mkT 0 39 [(1, (AV.dat (D.int IntKind.i64 i))), (6, (AV.dat (D.int IntKind.i64 n)))]) (Mem.mk [] [] 0))))
  )
  := by kernel_rfl
theorem f25t_eq (s : ByteArray) (i : Int) : (f25t s i).ev =
  (rGet (loS TT (TOrc.runs tNone) (HSr 25) lp25 out25 (St.mk (mkT 0 39 [(0, (AV.dat (D.str s))), (1, (AV.dat (D.int IntKind.i64 i))), (6, (AV.dat (D.int IntKind.i64 (0 : Int))))]) (Mem.mk [] [] 0))) fun x1 =>
   (some ((AV.tup [(AV.dat (D.int IntKind.i64 x1.1)), (AV.dat (D.int IntKind.i64 x1.2))]), []))
  )
  := by kernel_rfl
theorem rk16n_eq (a b : Int) (i : Int) : (rk16n a b i).ev =
  (rAsk (decide (i < (128 : Int)))
   (rGet (fnS (fun (b : Bool) => ((AV.dat (D.bool b)), [])) (P29 [(AV.agg [(AV.dat (D.int IntKind.u64 a)), (AV.dat (D.int IntKind.u64 b))]), (AV.dat (D.int IntKind.i64 i))] [])) fun x1 =>
    (rAsk (!x1)
     (some (Ex.norm, (St.mk (mkT 0 37 [(1, (AV.ptr (Ref.loc 0) 0)), (3, (AV.dat (D.list LK.nil 0 ([] : Row)))), (4, (AV.dat (D.int IntKind.i64 (IntKind.wrap IntKind.i64 (i + (1 : Int))))))]) (Mem.mk [(Option.some (Ent.obj [(AV.dat (D.int IntKind.u64 a)), (AV.dat (D.int IntKind.u64 b))]))] [] 0))))
     (rGet (fnS (fun (b : Bool) => ((AV.dat (D.bool b)), [])) (P29 [(AV.agg [(AV.dat (D.int IntKind.u64 a)), (AV.dat (D.int IntKind.u64 b))]), (AV.dat (D.int IntKind.i64 (IntKind.wrap IntKind.i64 (i - (1 : Int)))))] [])) fun x2 =>
      (rAsk x2
       none
       (some (Ex.norm, (St.mk (mkT 0 37 [(1, (AV.ptr (Ref.loc 0) 0)), (3, (AV.sh false 1 2 0 1)), (4, (AV.dat (D.int IntKind.i64 (IntKind.wrap IntKind.i64 (i + (1 : Int))))))]) (Mem.mk [(Option.some (Ent.obj [(AV.dat (D.int IntKind.u64 a)), (AV.dat (D.int IntKind.u64 b))])), (Option.some (Ent.row Mode.excl 2 [[(D.int IntKind.i64 i), (D.int IntKind.i64 (1 : Int))]]))] [] 0))))
      )
     )
    )
   )
   (some ((Ex.exit 0), (St.mk (mkT 0 37 [(3, (AV.dat (D.list LK.nil 0 ([] : Row))))]) (Mem.mk [] [] 0))))
  )
  := by kernel_rfl
theorem rk16r_eq (a b : Int) (r : Row) (i : Int) : (rk16r a b r i).ev =
  (rAsk (decide (i < (128 : Int)))
   (rGet (fnS (fun (b : Bool) => ((AV.dat (D.bool b)), [])) (P29 [(AV.agg [(AV.dat (D.int IntKind.u64 a)), (AV.dat (D.int IntKind.u64 b))]), (AV.dat (D.int IntKind.i64 i))] [])) fun x1 =>
    (rAsk (!x1)
     (some (Ex.norm, (St.mk (mkT 0 37 [(1, (AV.ptr (Ref.loc 0) 0)), (3, (AV.sh false 1 2 0 (List.length r))), (4, (AV.dat (D.int IntKind.i64 (IntKind.wrap IntKind.i64 (i + (1 : Int))))))]) (Mem.mk [(Option.some (Ent.obj [(AV.dat (D.int IntKind.u64 a)), (AV.dat (D.int IntKind.u64 b))])), (Option.some (Ent.row Mode.excl 2 r))] [] 0))))
     (rGet (fnS (fun (b : Bool) => ((AV.dat (D.bool b)), [])) (P29 [(AV.agg [(AV.dat (D.int IntKind.u64 a)), (AV.dat (D.int IntKind.u64 b))]), (AV.dat (D.int IntKind.i64 (IntKind.wrap IntKind.i64 (i - (1 : Int)))))] [])) fun x2 =>
      (rAsk x2
       (rAsk ((decide ((0 : Int) ≤ (IntKind.wrap IntKind.i64 ((((List.length r) : Nat) : Int) - (1 : Int))))) && (decide ((IntKind.wrap IntKind.i64 ((((List.length r) : Nat) : Int) - (1 : Int))) < (((List.length r) : Nat) : Int))))
        (rGet r[(0 + (Int.toNat (IntKind.wrap IntKind.i64 ((((List.length r) : Nat) : Int) - (1 : Int)))))]? fun x3 =>
         (rGet (List.head? (List.drop 1 x3)) fun x4 =>
          (rGet (D.int? IntKind.i64 x4) fun x5 =>
           (rAsk ((decide ((0 : Int) ≤ (IntKind.wrap IntKind.i64 ((((List.length r) : Nat) : Int) - (1 : Int))))) && (decide ((IntKind.wrap IntKind.i64 ((((List.length r) : Nat) : Int) - (1 : Int))) < (((List.length r) : Nat) : Int))))
            (rGet r[(0 + (Int.toNat (IntKind.wrap IntKind.i64 ((((List.length r) : Nat) : Int) - (1 : Int)))))]? fun x6 =>
             (rAsk (decide (2 ≤ (List.length x6)))
              (some (Ex.norm, (St.mk (mkT 0 37 [(1, (AV.ptr (Ref.loc 0) 0)), (3, (AV.sh false 1 2 0 (List.length r))), (4, (AV.dat (D.int IntKind.i64 (IntKind.wrap IntKind.i64 (i + (1 : Int))))))]) (Mem.mk [(Option.some (Ent.obj [(AV.dat (D.int IntKind.u64 a)), (AV.dat (D.int IntKind.u64 b))])), (Option.some (Ent.row Mode.excl 2 (List.set r (0 + (Int.toNat (IntKind.wrap IntKind.i64 ((((List.length r) : Nat) : Int) - (1 : Int))))) (splice x6 1 [(D.int IntKind.i64 (IntKind.wrap IntKind.i64 (x5 + (1 : Int))))]))))] [] 0))))
              none
             )
            )
            none
           )
          )
         )
        )
        none
       )
       (rAsk ((decide ((0 + (List.length r)) ≤ (List.length r))) && (fits (TI.mk (TK.struct [(0, 3), (1, 3)]) 2 16 [(AV.dat (D.int IntKind.i64 (0 : Int))), (AV.dat (D.int IntKind.i64 (0 : Int)))] true) ((List.length r) + 1)))
        (rAsk (true && (decide ((List.length r) = (List.length r))))
         (some (Ex.norm, (St.mk (mkT 0 37 [(1, (AV.ptr (Ref.loc 0) 0)), (3, (AV.sh false 1 2 0 ((List.length r) + 1))), (4, (AV.dat (D.int IntKind.i64 (IntKind.wrap IntKind.i64 (i + (1 : Int))))))]) (Mem.mk [(Option.some (Ent.obj [(AV.dat (D.int IntKind.u64 a)), (AV.dat (D.int IntKind.u64 b))])), (Option.some (Ent.row Mode.excl 2 (r ++ [[(D.int IntKind.i64 i), (D.int IntKind.i64 (1 : Int))]])))] [] 0))))
         none
        )
        none
       )
      )
     )
    )
   )
   (some ((Ex.exit 0), (St.mk (mkT 0 37 [(3, (AV.sh false 0 2 0 (List.length r)))]) (Mem.mk [(Option.some (Ent.row Mode.excl 2 r))] [] 0))))
  )
  := by kernel_rfl
theorem f16t_eq (a b : Int) : (f16t a b).ev =
  (rAsk (Option.isSome (loS TT (TOrc.runs t16) (HSr 16) lp16 out16n (St.mk (mkT 0 37 [(1, (AV.ptr (Ref.loc 0) 0)), (3, (AV.dat (D.list LK.nil 0 ([] : Row)))), (4, (AV.dat (D.int IntKind.i64 (0 : Int))))]) (Mem.mk [(Option.some (Ent.obj [(AV.dat (D.int IntKind.u64 a)), (AV.dat (D.int IntKind.u64 b))]))] [] 0))))
   (rGet (loS TT (TOrc.runs t16) (HSr 16) lp16 out16n (St.mk (mkT 0 37 [(1, (AV.ptr (Ref.loc 0) 0)), (3, (AV.dat (D.list LK.nil 0 ([] : Row)))), (4, (AV.dat (D.int IntKind.i64 (0 : Int))))]) (Mem.mk [(Option.some (Ent.obj [(AV.dat (D.int IntKind.u64 a)), (AV.dat (D.int IntKind.u64 b))]))] [] 0))) fun _ =>
    (some ((AV.dat (D.list LK.nil 0 ([] : Row))), []))
   )
   (rGet (loS TT (TOrc.runs t16) (HSr 16) lp16 out16r (St.mk (mkT 0 37 [(1, (AV.ptr (Ref.loc 0) 0)), (3, (AV.dat (D.list LK.nil 0 ([] : Row)))), (4, (AV.dat (D.int IntKind.i64 (0 : Int))))]) (Mem.mk [(Option.some (Ent.obj [(AV.dat (D.int IntKind.u64 a)), (AV.dat (D.int IntKind.u64 b))]))] [] 0))) fun x2 =>
    (rAsk (wholeB false 0 (List.length x2) (List.length x2))
     (some ((AV.own true 2 x2), []))
     (some ((AV.dat (D.list LK.any 2 (List.take (List.length x2) (List.drop 0 x2)))), []))
    )
   )
  )
  := by kernel_rfl

theorem w64i {x : Int} (h0 : 0 ≤ x) (h1 : x < 9223372036854775808) : IntKind.wrap .i64 x = x := by
  obtain ⟨n, rfl⟩ := Int.eq_ofNat_of_zero_le h0
  exact w64 (by omega) rfl
theorem w8i {x : Int} (h0 : 0 ≤ x) (h1 : x < 256) : IntKind.wrap .u8 x = x := by
  simp [IntKind.wrap, IntKind.bits, IntKind.signed]
  omega
theorem ba_atR {l : List UInt8} {i : Nat} {d : UInt8} (h : l[i]? = some d) : (ba l)[i]? = some d := by
  obtain ⟨h1, h2⟩ := List.getElem?_eq_some_iff.1 h
  rw [getElem?_pos (ba l) i (by rw [ba_sz]; exact h1), ← h2]
  rfl
theorem ba_midR {p r : List UInt8} {d : UInt8} : (ba (p ++ d :: r))[Int.toNat ((p.length : Nat) : Int)]? = some d := by
  rw [Int.toNat_natCast]
  exact ba_atR (by simp)
theorem out25_inj : ∀ x y, out25 x = out25 y → x = y := by
  rintro ⟨a, b⟩ ⟨c, d⟩ h
  simp [out25, jn] at h
  obtain ⟨rfl, rfl⟩ := h
  rfl
theorem oN2_inj {G : List Ent} : ∀ x y, oN2 G x = oN2 G y → x = y := by
  rintro ⟨a, b⟩ ⟨c, d⟩ h
  simp [oN2, jn] at h
  obtain ⟨rfl, rfl⟩ := h
  rfl
theorem oB_inj {G : List Ent} : ∀ x y, oB G x = oB G y → x = y := by intro x y h; simpa [oB] using h
theorem numL_len : ∀ (l : List UInt8) (n : Int), (numL n l).2.length ≤ l.length
  | [], _ => Nat.le_refl _
  | d :: l, n => by
    unfold numL
    split
    · have := numL_len l (10 * n + (d.toNat - 48))
      rw [List.length_cons]; omega
    · exact Nat.le_refl _
theorem numL_le : ∀ (l : List UInt8) (n : Int), n ≤ 9999 → (numL n l).1 ≤ 9999
  | [], _, h => h
  | d :: l, n, h => by
    unfold numL
    split
    · rename_i q
      exact numL_le l _ (by omega)
    · exact h
attribute [local irreducible] fnS loS tround P29 P30 P16
theorem go25 {s : ByteArray} {i n : Int} {o} (h : (rk25 s i n).ev = o) : (tround TT tNone noLo (HSr 25) lp25 (inv25 s i n)).run = o := by
  rw [Tr.ev_run] at h
  exact h
theorem loop25 : ∀ (rest pre : List UInt8) (n : Int), pre.length + rest.length ≤ 2000 → 0 ≤ n → n ≤ 9999 →
    LoopTo TT tNone.runs (HSr 25) lp25 (inv25 (ba (pre ++ rest)) pre.length n) (out25 ((numL n rest).1, ((pre.length + rest.length - (numL n rest).2.length : Nat) : Int)))
  | [], pre, n, hl, h0, h1 => by
    refine LoopTo.last (orc := tNone) (lo := noLo) (fun _ _ _ _ h => h) (LoOk2.no _) (go25 ?_) (by simp [out25])
    rw [rk25_eq, ba_sz, List.append_nil]
    exact aF (by rw [decide_eq_false_iff_not]; omega) rfl
  | d :: rest, pre, n, hl, h0, h1 => by
    rw [List.length_cons] at hl
    have a0 : decide (((pre.length : Nat) : Int) < (((ba (pre ++ d :: rest)).size : Nat) : Int)) = true := by rw [decide_eq_true_eq, ba_sz, List.length_append, List.length_cons]; omega
    have b0 : decide ((0 : Int) ≤ ((pre.length : Nat) : Int)) = true := by rw [decide_eq_true_eq]; omega
    have hd := UInt8.toNat_lt d
    by_cases q : 48 ≤ d.toNat ∧ d.toNat ≤ 57 ∧ n < 1000
    · have hv : IntKind.wrap IntKind.i64 ((IntKind.wrap IntKind.i64 ((10 : Int) * n)) + (IntKind.wrap IntKind.i64 (IntKind.wrap IntKind.u8 (((d.toNat : Nat) : Int) - (48 : Int))))) = 10 * n + ((d.toNat : Int) - 48) := by
        rw [w8i (by omega) (by omega), w64i (x := 10 * n) (by omega) (by omega), w64i (x := (d.toNat : Int) - 48) (by omega) (by omega), w64i (by omega) (by omega)]
      have step : (tround TT tNone noLo (HSr 25) lp25 (inv25 (ba (pre ++ d :: rest)) pre.length n)).run = some (.norm, inv25 (ba (pre ++ d :: rest)) ((pre.length + 1 : Nat) : Int) (10 * n + ((d.toNat : Int) - 48))) := by
        refine go25 ?_
        rw [rk25_eq, w64 (n := pre.length + 1) (by omega) (x := ((pre.length : Nat) : Int) + 1) (by omega)]
        refine aT a0 (aT b0 (gStep ba_midR (aT (by rw [decide_eq_true_eq]; omega) (aT b0 (gStep ba_midR (aT (by rw [decide_eq_true_eq]; omega) (aT (by rw [decide_eq_true_eq]; exact q.2.2) (aT b0 (gStep ba_midR ?_)))))))))
        rw [hv]
        rfl
      have ih := loop25 rest (pre ++ [d]) (10 * n + ((d.toNat : Int) - 48)) (by simp only [List.length_append, List.length_singleton]; omega) (by omega) (by omega)
      rw [show pre ++ [d] ++ rest = pre ++ d :: rest by simp, show (pre ++ [d]).length = pre.length + 1 by simp] at ih
      rw [numL, if_pos q, List.length_cons, show pre.length + (rest.length + 1) = pre.length + 1 + rest.length by omega]
      exact LoopTo.more (orc := tNone) (lo := noLo) (fun _ _ _ _ h => h) (LoOk2.no _) step ih
    · refine LoopTo.last (orc := tNone) (lo := noLo) (fun _ _ _ _ h => h) (LoOk2.no _) (go25 ?_) (by simp [out25])
      rw [rk25_eq, numL, if_neg q, show pre.length + (d :: rest).length - (n, d :: rest).2.length = pre.length by simp only; omega]
      refine aT a0 (aT b0 (gStep ba_midR ?_))
      by_cases q1 : 48 ≤ d.toNat
      · refine aT (by rw [decide_eq_true_eq]; omega) (aT b0 (gStep ba_midR ?_))
        by_cases q2 : d.toNat ≤ 57
        · refine aT (by rw [decide_eq_true_eq]; omega) (aF (by rw [decide_eq_false_iff_not]; exact fun q3 => q ⟨q1, q2, q3⟩) rfl)
        · exact aF (by rw [decide_eq_false_iff_not]; omega) rfl
      · exact aF (by rw [decide_eq_false_iff_not]; omega) rfl
theorem f25_run {pre rest : List UInt8} (h : pre.length + rest.length ≤ 2000) : R25 [.dat (.str (ba (pre ++ rest))), jn pre.length] [] = some (oN2 [] ((numL 0 rest).1, ((pre.length + rest.length - (numL 0 rest).2.length : Nat) : Int))) := by
  have key : ∀ o, (f25t (ba (pre ++ rest)) pre.length).ev = o → R25 [.dat (.str (ba (pre ++ rest))), jn pre.length] [] = o := fun o h => by
    rw [Tr.ev_run] at h
    exact h
  refine key _ ?_
  rw [f25t_eq]
  exact gStep (loS_eq (out := out25) out25_inj (loop25 rest pre 0 h (by omega) (by omega))) rfl
theorem p25 {pre rest : List UInt8} (h : pre.length + rest.length ≤ 2000) (G : List Ent) : P25 [.dat (.str (ba (pre ++ rest))), jn pre.length] G = some (oN2 G ((numL 0 rest).1, ((pre.length + rest.length - (numL 0 rest).2.length : Nat) : Int))) := by
  unfold P25
  exact pureS_eq rfl (f25_run h) rfl

/-! ### Of -/
theorem out16n_inj : ∀ x y, out16n x = out16n y → x = y := fun _ _ _ => rfl
theorem out16r_inj : ∀ x y, out16r x = out16r y → x = y := by
  intro x y h
  simp [out16r] at h
  exact h.2
theorem out16_no {y : Row} : ∀ x, out16n x ≠ out16r y := fun x h => by simp [out16n, out16r, mkT] at h
def rowC (l : List (Nat × Nat)) : Row := rowR (l.map ciR)
theorem rowC_len (l : List (Nat × Nat)) : (rowC l).length = l.length := by simp [rowC, rowR]
theorem rowC_snoc (l : List (Nat × Nat)) (r : Nat × Nat) : rowC (l ++ [r]) = rowC l ++ [[.int .i64 r.1, .int .i64 r.2]] := by simp [rowC, rowR, ciR]
def inv16 (s : Nat × Nat) (L : List (Nat × Nat)) (i : Nat) : St := match L with
  | [] => inv16n s.1 s.2 i
  | p :: l => inv16r s.1 s.2 (rowC (p :: l)) i
def fin16 (L : List (Nat × Nat)) : Ex × St := match L with
  | [] => out16n ()
  | p :: l => out16r (rowC (p :: l))
theorem inv16_snoc (s : Nat × Nat) (l : List (Nat × Nat)) (r : Nat × Nat) (i : Nat) : inv16 s (l ++ [r]) i = inv16r s.1 s.2 (rowC (l ++ [r])) i := by
  cases l <;> rfl
theorem go16 {s : Nat × Nat} {L : List (Nat × Nat)} {i : Nat} {o} (h : (match L with
    | [] => rk16n s.1 s.2 i
    | p :: l => rk16r s.1 s.2 (rowC (p :: l)) i).ev = o) : (tround TT t16 noLo (HSr 16) lp16 (inv16 s L i)).run = o := by
  rw [Tr.ev_run] at h
  cases L <;> exact h
theorem runsU_len (s : Nat × Nat) (i : Nat) : (runsU s i).length ≤ i + 1 := by
  unfold runsU
  rw [runE_eq, List.length_append]
  have h1 := runE_len (numsU s i) (0, 0)
  have h2 : (numsU s i).length ≤ i := by
    have := List.length_filter_le (hasB s) (List.range i)
    rw [List.length_range] at this
    exact this
  split
  · rw [List.length_singleton]; omega
  · rw [List.length_nil]; omega
theorem lastIx {A : Row} {x : List D} (h : A.length ≤ 1000) : IntKind.wrap .i64 ((((A ++ [x]).length : Nat) : Int) - 1) = ((A.length : Nat) : Int) := w64 (by omega) (by simp)
theorem step16 {s : Nat × Nat} (h : fitB s) {i : Nat} (hi : i < 128) : (tround TT t16 noLo (HSr 16) lp16 (inv16 s (runsU s i) i)).run = some (.norm, inv16 s (runsU s (i + 1)) (i + 1)) := by
  have a0 : decide (((i : Nat) : Int) < 128) = true := by rw [decide_eq_true_eq]; omega
  have e1 := fnS_eq (out := oB []) oB_inj (p29 h hi [])
  have e2 : fnS (oB []) (P29 [st2 s.1 s.2, jn (IntKind.wrap .i64 (((i : Nat) : Int) - 1))] []) = some (decide (0 < i) && hasB s (i - 1)) := by
    by_cases h0 : 0 < i
    · rw [w64 (n := i - 1) (by omega) (by omega), fnS_eq (out := oB []) oB_inj (p29 h (i := i - 1) (by omega) []), decide_eq_true h0, Bool.true_and]
    · obtain rfl : i = 0 := by omega
      exact fnS_eq (out := oB []) oB_inj (p29n s [])
  have hw : IntKind.wrap IntKind.i64 (((i : Nat) : Int) + (1 : Int)) = ((i + 1 : Nat) : Int) := w64 (by omega) (by omega)
  refine go16 ?_
  have hlen := runsU_len s i
  cases hb : hasB s i with
  | false =>
    rw [hb] at e1
    rw [runsU_no hb]
    cases hL : runsU s i with
    | nil =>
      rw [rk16n_eq, hw]
      exact aT a0 (gStep e1 (aT rfl rfl))
    | cons p l =>
      rw [rk16r_eq, hw]
      exact aT a0 (gStep e1 (aT rfl rfl))
  | true =>
    rw [hb] at e1
    by_cases hp : (decide (0 < i) && hasB s (i - 1)) = true
    · rw [hp] at e2
      rw [Bool.and_eq_true, decide_eq_true_eq] at hp
      obtain ⟨l, r, q1, q2, q3, q4⟩ := runsU_more hb hp.1 hp.2
      rw [q4, inv16_snoc]
      rw [q1, List.length_append, List.length_singleton] at hlen
      have hl1 : (rowC l).length ≤ 1000 := by rw [rowC_len]; omega
      have hat : (rowC l ++ [[.int .i64 r.1, .int .i64 r.2]])[0 + Int.toNat (((rowC l).length : Nat) : Int)]? = some [.int .i64 r.1, .int .i64 r.2] := by
        rw [Int.toNat_natCast, Nat.zero_add]; simp
      have hin : ((decide ((0 : Int) ≤ (((rowC l).length : Nat) : Int))) && (decide ((((rowC l).length : Nat) : Int) < (((rowC l ++ [[D.int .i64 r.1, .int .i64 r.2]]).length : Nat) : Int)))) = true := by
        rw [Bool.and_eq_true, decide_eq_true_eq, decide_eq_true_eq, List.length_append, List.length_singleton]
        omega
      have key : (rk16r s.1 s.2 (rowC (l ++ [r])) i).ev = some (.norm, inv16r s.1 s.2 (rowC (l ++ [(r.1, r.2 + 1)])) ((i + 1 : Nat) : Int)) := by
        rw [rk16r_eq, hw, rowC_snoc, lastIx hl1]
        refine aT a0 (gStep e1 (aF rfl (gStep e2 (aT rfl (aT hin (gStep hat (gStep rfl (gStep rfl (aT hin (gStep hat (aT rfl ?_)))))))))))
        rw [w64 (n := r.2 + 1) (by omega) (x := ((r.2 : Nat) : Int) + 1) (by omega), Int.toNat_natCast, Nat.zero_add, rowC_snoc]
        unfold inv16r
        have e : (rowC l ++ [[D.int .i64 r.1, D.int .i64 r.2]]).set (rowC l).length (splice [D.int .i64 r.1, D.int .i64 r.2] 1 [D.int .i64 ((r.2 + 1 : Nat) : Int)]) = rowC l ++ [[D.int .i64 r.1, D.int .i64 ((r.2 + 1 : Nat) : Int)]] := by
          rw [List.set_append_right _ _ (Nat.le_refl _), Nat.sub_self]
          rfl
        rw [e]
        simp only [List.length_append, List.length_singleton]
        rfl
      rw [q1]
      cases l with
      | nil => exact key
      | cons p l => exact key
    · have hp' : (decide (0 < i) && hasB s (i - 1)) = false := by simpa using hp
      rw [hp'] at e2
      have hnew : i = 0 ∨ hasB s (i - 1) = false := by
        rw [Bool.and_eq_false_iff, decide_eq_false_iff_not] at hp'
        rcases hp' with q | q
        · exact .inl (by omega)
        · exact .inr q
      rw [runsU_new hb hnew, inv16_snoc, rowC_snoc]
      cases hL : runsU s i with
      | nil =>
        rw [rk16n_eq, hw]
        exact aT a0 (gStep e1 (aF rfl (gStep e2 (aF rfl rfl))))
      | cons p l =>
        rw [hL] at hlen
        rw [rk16r_eq, hw]
        refine aT a0 (gStep e1 (aF rfl (gStep e2 (aF rfl (aT ?_ (aT (by simp) ?_))))))
        · rw [Bool.and_eq_true, decide_eq_true_eq, fits_iff, rowC_len]
          omega
        · unfold inv16r
          simp only [List.length_append, List.length_singleton]
          rfl
theorem loop16 {s : Nat × Nat} (h : fitB s) : ∀ (d i : Nat), i + d = 128 → LoopTo TT t16.runs (HSr 16) lp16 (inv16 s (runsU s i) i) (fin16 (runsB s))
  | 0, i, hi => by
    obtain rfl : i = 128 := by omega
    rw [runsU_all]
    refine LoopTo.last (orc := t16) (lo := noLo) (fun _ _ _ _ h => h) (LoOk2.no _) (go16 ?_) (by cases runsB s <;> simp [fin16, out16n, out16r])
    cases hL : runsB s with
    | nil =>
      rw [rk16n_eq]
      exact aF rfl rfl
    | cons p l =>
      rw [rk16r_eq]
      exact aF rfl rfl
  | d + 1, i, hi => LoopTo.more (orc := t16) (lo := noLo) (fun _ _ _ _ h => h) (LoOk2.no _) (step16 h (by omega)) (loop16 h d (i + 1) (by omega))
def res16 (G : List Ent) (L : List (Nat × Nat)) : AV × List Ent := match L with
  | [] => oNl G ()
  | p :: l => oOw G (rowC (p :: l))
theorem f16_run {s : Nat × Nat} (h : fitB s) : R16 [st2 s.1 s.2] [] = some (res16 [] (runsB s)) := by
  have key : ∀ o, (f16t s.1 s.2).ev = o → R16 [st2 s.1 s.2] [] = o := fun o h => by
    rw [Tr.ev_run] at h
    exact h
  refine key _ ?_
  rw [f16t_eq]
  have hl := loop16 h 128 0 rfl
  cases hL : runsB s with
  | nil =>
    rw [hL] at hl
    have hl : LoopTo TT t16.runs (HSr 16) lp16 (inv16n s.1 s.2 0) (out16n ()) := hl
    exact aT (loS_yes (o1 := out16n) out16n_inj hl) (gStep (loS_eq (out := out16n) out16n_inj hl) rfl)
  | cons p l =>
    rw [hL] at hl
    have hl : LoopTo TT t16.runs (HSr 16) lp16 (inv16n s.1 s.2 0) (out16r (rowC (p :: l))) := hl
    exact aF (loS_no (o1 := out16n) hl out16_no) (gStep (loS_eq (out := out16r) out16r_inj hl) (aT (by rw [whole_iff]; exact ⟨rfl, rfl⟩) rfl))
theorem p16 {s : Nat × Nat} (h : fitB s) (G : List Ent) : P16 [st2 s.1 s.2] G = some (res16 G (runsB s)) := by
  have q := f16_run h
  unfold P16
  cases hL : runsB s with
  | nil =>
    rw [hL] at q
    exact pureS_eq rfl q rfl
  | cons p l =>
    rw [hL] at q
    exact pureS_eq rfl q rfl
end Go.Eng
end

/- Sets of runs: the document's Text is textB. -/
section
namespace Go.Eng
open Go
set_option maxRecDepth 100000
set_option linter.unusedSimpArgs false

theorem rk17_eq (r : Row) (z : ByteArray) (i : Int) : (rk17 r z i).ev =
  (rAsk (decide (i < (((List.length r) : Nat) : Int)))
   (rAsk (decide (i > (0 : Int)))
    (rAsk (Nat.ble ((ByteArray.size z) + 1) 9223372036854775807)
     (rAsk ((decide ((0 : Int) ≤ i)) && (decide (i < (((List.length r) : Nat) : Int))))
      (rGet r[(0 + (Int.toNat i))]? fun x1 =>
       (rGet (List.head? (List.drop 0 x1)) fun x2 =>
        (rGet (fnS (fun (zs : ByteArray) => ((AV.dat (D.str zs)), [])) (P30 [(AV.dat x2)] [])) fun x3 =>
         (rAsk (Nat.ble ((ByteArray.size (z ++ (ByteArray.mk (List.toArray [44])))) + (ByteArray.size x3)) 9223372036854775807)
          (rAsk ((decide ((0 : Int) ≤ i)) && (decide (i < (((List.length r) : Nat) : Int))))
           (rGet r[(0 + (Int.toNat i))]? fun x4 =>
            (rGet (List.head? (List.drop 1 x4)) fun x5 =>
             (rGet (D.int? IntKind.i64 x5) fun x6 =>
              (rAsk (decide (x6 > (1 : Int)))
               (rAsk (Nat.ble ((ByteArray.size ((z ++ (ByteArray.mk (List.toArray [44]))) ++ x3)) + 1) 9223372036854775807)
                (rAsk ((decide ((0 : Int) ≤ i)) && (decide (i < (((List.length r) : Nat) : Int))))
                 (rGet r[(0 + (Int.toNat i))]? fun x7 =>
                  (rGet (List.head? (List.drop 0 x7)) fun x8 =>
                   (rAsk ((decide ((0 : Int) ≤ i)) && (decide (i < (((List.length r) : Nat) : Int))))
                    (rGet r[(0 + (Int.toNat i))]? fun x9 =>
                     (rGet (List.head? (List.drop 1 x9)) fun x10 =>
                      (rGet (D.int? IntKind.i64 x8) fun x11 =>
                       (rGet (D.int? IntKind.i64 x10) fun x12 =>
                        (rGet (fnS (fun (zs : ByteArray) => ((AV.dat (D.str zs)), [])) (P30 [(AV.dat (D.int IntKind.i64 (IntKind.wrap IntKind.i64 ((IntKind.wrap IntKind.i64 (x11 + x12)) - (1 : Int)))))] [])) fun x13 =>
                         (rAsk (Nat.ble ((ByteArray.size (((z ++ (ByteArray.mk (List.toArray [44]))) ++ x3) ++ (ByteArray.mk (List.toArray [45])))) + (ByteArray.size x13)) 9223372036854775807)
                          (some (Ex.norm, (St.mk (mkT 0 49 [(3, (AV.dat (D.str ((((z ++ (ByteArray.mk (List.toArray [44]))) ++ x3) ++ (ByteArray.mk (List.toArray [45]))) ++ x13)))), (4, (AV.sh false 0 2 0 (List.length r))), (5, (AV.dat (D.int IntKind.i64 (IntKind.wrap IntKind.i64 (i + (1 : Int))))))]) (Mem.mk [(Option.some (Ent.row Mode.excl 2 r))] [] 0))))
                          none
                         )
                        )
                       )
                      )
                     )
                    )
                    none
                   )
                  )
                 )
                 none
                )
                none
               )
               (some (Ex.norm, (St.mk (mkT 0 49 [(3, (AV.dat (D.str ((z ++ (ByteArray.mk (List.toArray [44]))) ++ x3)))), (4, (AV.sh false 0 2 0 (List.length r))), (5, (AV.dat (D.int IntKind.i64 (IntKind.wrap IntKind.i64 (i + (1 : Int))))))]) (Mem.mk [(Option.some (Ent.row Mode.excl 2 r))] [] 0))))
              )
             )
            )
           )
           none
          )
          none
         )
        )
       )
      )
      none
     )
     none
    )
    (rAsk ((decide ((0 : Int) ≤ i)) && (decide (i < (((List.length r) : Nat) : Int))))
     (rGet r[(0 + (Int.toNat i))]? fun x14 =>
      (rGet (List.head? (List.drop 0 x14)) fun x15 =>
       (rGet (fnS (fun (zs : ByteArray) => ((AV.dat (D.str zs)), [])) (P30 [(AV.dat x15)] [])) fun x16 =>
        (rAsk (Nat.ble ((ByteArray.size z) + (ByteArray.size x16)) 9223372036854775807)
         (rAsk ((decide ((0 : Int) ≤ i)) && (decide (i < (((List.length r) : Nat) : Int))))
          (rGet r[(0 + (Int.toNat i))]? fun x17 =>
           (rGet (List.head? (List.drop 1 x17)) fun x18 =>
            (rGet (D.int? IntKind.i64 x18) fun x19 =>
             (rAsk (decide (x19 > (1 : Int)))
              (rAsk (Nat.ble ((ByteArray.size (z ++ x16)) + 1) 9223372036854775807)
               (rAsk ((decide ((0 : Int) ≤ i)) && (decide (i < (((List.length r) : Nat) : Int))))
                (rGet r[(0 + (Int.toNat i))]? fun x20 =>
                 (rGet (List.head? (List.drop 0 x20)) fun x21 =>
                  (rAsk ((decide ((0 : Int) ≤ i)) && (decide (i < (((List.length r) : Nat) : Int))))
                   (rGet r[(0 + (Int.toNat i))]? fun x22 =>
                    (rGet (List.head? (List.drop 1 x22)) fun x23 =>
                     (rGet (D.int? IntKind.i64 x21) fun x24 =>
                      (rGet (D.int? IntKind.i64 x23) fun x25 =>
                       (rGet (fnS (fun (zs : ByteArray) => ((AV.dat (D.str zs)), [])) (P30 [(AV.dat (D.int IntKind.i64 (IntKind.wrap IntKind.i64 ((IntKind.wrap IntKind.i64 (x24 + x25)) - (1 : Int)))))] [])) fun x26 =>
                        (rAsk (Nat.ble ((ByteArray.size ((z ++ x16) ++ (ByteArray.mk (List.toArray [45])))) + (ByteArray.size x26)) 9223372036854775807)
                         (some (Ex.norm, (St.mk (mkT 0 49 [(3, (AV.dat (D.str (((z ++ x16) ++ (ByteArray.mk (List.toArray [45]))) ++ x26)))), (4, (AV.sh false 0 2 0 (List.length r))), (5, (AV.dat (D.int IntKind.i64 (IntKind.wrap IntKind.i64 (i + (1 : Int))))))]) (Mem.mk [(Option.some (Ent.row Mode.excl 2 r))] [] 0))))
                         none
                        )
                       )
                      )
                     )
                    )
                   )
                   none
                  )
                 )
                )
                none
               )
               none
              )
              (some (Ex.norm, (St.mk (mkT 0 49 [(3, (AV.dat (D.str (z ++ x16)))), (4, (AV.sh false 0 2 0 (List.length r))), (5, (AV.dat (D.int IntKind.i64 (IntKind.wrap IntKind.i64 (i + (1 : Int))))))]) (Mem.mk [(Option.some (Ent.row Mode.excl 2 r))] [] 0))))
             )
            )
           )
          )
          none
         )
         none
        )
       )
      )
     )
     none
    )
   )
   (some ((Ex.exit 0), (St.mk (mkT 0 49 [(3, (AV.dat (D.str z)))]) (Mem.mk [] [] 0))))
  )
  := by kernel_rfl
theorem rk17z_eq : rk17z.ev =
  (some ((Ex.exit 0), (St.mk (mkT 0 49 [(3, (AV.dat (D.str (ByteArray.mk (List.toArray [])))))]) (Mem.mk [] [] 0))))
  := by kernel_rfl
theorem f17t_eq (a b : Int) : (f17t a b).ev =
  (rAsk (Option.isSome (fnS (fun (x : Unit) => ((AV.dat (D.list LK.nil 0 ([] : Row))), [])) (P16 [(AV.agg [(AV.dat (D.int IntKind.u64 a)), (AV.dat (D.int IntKind.u64 b))])] [])))
   (rGet (fnS (fun (x : Unit) => ((AV.dat (D.list LK.nil 0 ([] : Row))), [])) (P16 [(AV.agg [(AV.dat (D.int IntKind.u64 a)), (AV.dat (D.int IntKind.u64 b))])] [])) fun _ =>
    (rGet (loS TT (TOrc.runs t17) (HSr 17) lp17 out17 (St.mk (mkT 0 49 [(3, (AV.dat (D.str (ByteArray.mk (List.toArray []))))), (4, (AV.dat (D.list LK.nil 0 ([] : Row)))), (5, (AV.dat (D.int IntKind.i64 (0 : Int))))]) (Mem.mk [] [] 0))) fun x2 =>
     (some ((AV.dat (D.str x2)), []))
    )
   )
   (rGet (fnS (fun (zr : Row) => ((AV.own true 2 zr), [])) (P16 [(AV.agg [(AV.dat (D.int IntKind.u64 a)), (AV.dat (D.int IntKind.u64 b))])] [])) fun x3 =>
    (rGet (loS TT (TOrc.runs t17) (HSr 17) lp17 out17 (St.mk (mkT 0 49 [(3, (AV.dat (D.str (ByteArray.mk (List.toArray []))))), (4, (AV.sh false 0 2 0 (List.length x3))), (5, (AV.dat (D.int IntKind.i64 (0 : Int))))]) (Mem.mk [(Option.some (Ent.row Mode.excl 2 x3))] [] 0))) fun x4 =>
     (some ((AV.dat (D.str x4)), []))
    )
   )
  )
  := by kernel_rfl
theorem out17_inj : ∀ x y, out17 x = out17 y → x = y := by
  intro x y h
  have h2 : (AV.dat (D.str x)) = AV.dat (D.str y) := congrArg (fun e : Ex × St => e.2.tmps.getD 3 .dead) h
  simpa using h2
theorem rowC_at (pre : List (Nat × Nat)) (r : Nat × Nat) (l : List (Nat × Nat)) : (rowC (pre ++ r :: l))[0 + Int.toNat ((pre.length : Nat) : Int)]? = some [.int .i64 r.1, .int .i64 r.2] := by
  rw [Int.toNat_natCast, Nat.zero_add, rowC, rowR, List.getElem?_map, List.getElem?_map]
  simp [ciR]
theorem joinTail_snoc (sep : List UInt8) (l : List (List UInt8)) (y : List UInt8) : Go.Lib.joinTail sep (l ++ [y]) = Go.Lib.joinTail sep l ++ (sep ++ y) := by
  simp [Go.Lib.joinTail]
theorem join_snoc (x : List UInt8) (l : List (List UInt8)) (y sep : List UInt8) : Go.Lib.join (x :: (l ++ [y])) sep = Go.Lib.join (x :: l) sep ++ (sep ++ y) := by
  rw [Go.Lib.join_cons, Go.Lib.join_cons, joinTail_snoc, List.append_assoc]
def txt (l : List (Nat × Nat)) : List UInt8 := Go.Lib.join (l.map wordN) [44]
theorem txt_snoc (p : Nat × Nat) (l : List (Nat × Nat)) (r : Nat × Nat) : txt (p :: l ++ [r]) = txt (p :: l) ++ [44] ++ wordN r := by
  unfold txt
  rw [List.map_append, List.map_cons, List.cons_append, List.map_cons, List.map_nil, join_snoc, List.append_assoc]
theorem txt_one (r : Nat × Nat) : txt [r] = wordN r := Go.Lib.join_one _ _
theorem txt_len : ∀ (l : List (Nat × Nat)), (∀ r ∈ l, 1 ≤ r.2 ∧ r.1 + r.2 ≤ 128) → (txt l).length ≤ 8 * l.length
  | [], _ => by simp [txt, Go.Lib.join]
  | r :: l, h => by
    have h1 := lens_words (r :: l) h
    unfold txt
    rw [List.map_cons] at h1 ⊢
    rw [Go.Lib.join_length, List.length_map, List.length_singleton, List.length_cons]
    rw [List.length_cons] at h1
    omega
attribute [local irreducible] fnS loS tround P29 P30 P16
theorem go17 {r : Row} {z : ByteArray} {i : Int} {o} (h : (rk17 r z i).ev = o) : (tround TT t17 noLo (HSr 17) lp17 (inv17 r z i)).run = o := by
  rw [Tr.ev_run] at h
  exact h
theorem step17 {pre rest : List (Nat × Nat)} {r : Nat × Nat} (hl : (pre ++ r :: rest).length ≤ 200) (h : ∀ q ∈ pre ++ r :: rest, 1 ≤ q.2 ∧ q.1 + q.2 ≤ 128) :
    (tround TT t17 noLo (HSr 17) lp17 (inv17 (rowC (pre ++ r :: rest)) (ba (txt pre)) pre.length)).run = some (.norm, inv17 (rowC (pre ++ r :: rest)) (ba (txt (pre ++ [r]))) ((pre.length + 1 : Nat) : Int)) := by
  have hr := h r (by simp)
  have hz := txt_len pre fun q hq => h q (by simp [hq])
  have d1 := dec_at2 (n := r.1) (by omega)
  have d2 := dec_at2 (n := r.1 + r.2 - 1) (by omega)
  have hlen : (rowC (pre ++ r :: rest)).length = pre.length + rest.length + 1 := by rw [rowC_len, List.length_append, List.length_cons]; omega
  rw [List.length_append, List.length_cons] at hl
  have a0 : decide (((pre.length : Nat) : Int) < (((rowC (pre ++ r :: rest)).length : Nat) : Int)) = true := by rw [decide_eq_true_eq]; omega
  have hb : ((decide ((0 : Int) ≤ ((pre.length : Nat) : Int))) && (decide (((pre.length : Nat) : Int) < (((rowC (pre ++ r :: rest)).length : Nat) : Int)))) = true := by
    rw [Bool.and_eq_true, decide_eq_true_eq, decide_eq_true_eq]
    omega
  have hat := rowC_at pre r rest
  have e1 := fnS_eq (out := oS []) oS_inj (p30 (n := r.1) (by omega) [])
  have e2 : fnS (oS []) (P30 [.dat (.int .i64 (IntKind.wrap .i64 (IntKind.wrap .i64 (((r.1 : Nat) : Int) + ((r.2 : Nat) : Int)) - 1)))] []) = some (ba (Go.Lib.decDigits (r.1 + r.2 - 1))) := by
    rw [w64 (n := r.1 + r.2) (by omega) (x := ((r.1 : Nat) : Int) + ((r.2 : Nat) : Int)) (by omega), w64 (n := r.1 + r.2 - 1) (by omega) (x := ((r.1 + r.2 : Nat) : Int) - (1 : Int)) (by omega)]
    exact fnS_eq (out := oS []) oS_inj (p30 (n := r.1 + r.2 - 1) (by omega) [])
  have hw : IntKind.wrap IntKind.i64 (((pre.length : Nat) : Int) + (1 : Int)) = ((pre.length + 1 : Nat) : Int) := w64 (by omega) (by omega)
  refine go17 ?_
  rw [rk17_eq, hw]
  refine aT a0 ?_
  cases pre with
  | nil =>
    refine aF (by simp) (aT hb (gStep hat (gStep rfl (gStep e1 ?_))))
    simp only [mk_ba, ba_app, ba_sz]
    simp only [txt_one, List.nil_append, show txt [] = [] from rfl, List.length_nil]
    refine aT (Nat.ble_eq_true_of_le (by omega)) (aT hb (gStep hat (gStep rfl (gStep rfl ?_))))
    by_cases h2 : r.2 > 1
    · refine aT (by rw [decide_eq_true_eq]; omega) (aT (Nat.ble_eq_true_of_le (by omega)) (aT hb (gStep hat (gStep rfl (aT hb (gStep hat (gStep rfl (gStep rfl (gStep rfl (gStep e2 ?_))))))))))
      simp only [mk_ba, ba_app, ba_sz, List.length_append, List.length_singleton]
      refine aT (Nat.ble_eq_true_of_le (by omega)) ?_
      rw [wordN, if_pos h2, List.append_assoc]
      rfl
    · refine aF (by rw [decide_eq_false_iff_not]; omega) ?_
      rw [wordN, if_neg h2, List.append_nil]
      rfl
  | cons p pre =>
    refine aT (by rw [decide_eq_true_eq, List.length_cons]; omega) ?_
    simp only [mk_ba, ba_app, ba_sz, List.length_append, List.length_singleton]
    refine aT (Nat.ble_eq_true_of_le (by omega)) (aT hb (gStep hat (gStep rfl (gStep e1 ?_))))
    simp only [mk_ba, ba_app, ba_sz, List.length_append, List.length_singleton]
    refine aT (Nat.ble_eq_true_of_le (by omega)) (aT hb (gStep hat (gStep rfl (gStep rfl ?_))))
    rw [txt_snoc]
    by_cases h2 : r.2 > 1
    · refine aT (by rw [decide_eq_true_eq]; omega) (aT (Nat.ble_eq_true_of_le (by omega)) (aT hb (gStep hat (gStep rfl (aT hb (gStep hat (gStep rfl (gStep rfl (gStep rfl (gStep e2 ?_))))))))))
      simp only [mk_ba, ba_app, ba_sz, List.length_append, List.length_singleton]
      refine aT (Nat.ble_eq_true_of_le (by omega)) ?_
      rw [wordN, if_pos h2, show txt (p :: pre) ++ [44] ++ Go.Lib.decDigits r.1 ++ [45] ++ Go.Lib.decDigits (r.1 + r.2 - 1) = txt (p :: pre) ++ [44] ++ (Go.Lib.decDigits r.1 ++ 45 :: Go.Lib.decDigits (r.1 + r.2 - 1)) by simp]
      rfl
    · refine aF (by rw [decide_eq_false_iff_not]; omega) ?_
      rw [wordN, if_neg h2, List.append_nil]
      rfl
theorem loop17 : ∀ (rest pre : List (Nat × Nat)), (pre ++ rest).length ≤ 200 → (∀ q ∈ pre ++ rest, 1 ≤ q.2 ∧ q.1 + q.2 ≤ 128) →
    LoopTo TT t17.runs (HSr 17) lp17 (inv17 (rowC (pre ++ rest)) (ba (txt pre)) pre.length) (out17 (ba (txt (pre ++ rest))))
  | [], pre, hl, h => by
    refine LoopTo.last (orc := t17) (lo := noLo) (fun _ _ _ _ h => h) (LoOk2.no _) (go17 ?_) (by simp [out17])
    rw [rk17_eq, List.append_nil, rowC_len]
    exact aF (by rw [decide_eq_false_iff_not]; omega) rfl
  | r :: rest, pre, hl, h => by
    have ih := loop17 rest (pre ++ [r]) (by simpa using hl) (by simpa using h)
    rw [show pre ++ [r] ++ rest = pre ++ r :: rest by simp, show (pre ++ [r]).length = pre.length + 1 by simp] at ih
    exact LoopTo.more (orc := t17) (lo := noLo) (fun _ _ _ _ h => h) (LoOk2.no _) (step17 hl h) ih
theorem res16_no {G : List Ent} {y : Row} : ∀ x, oNl G x ≠ oOw G y := oNl_no
theorem f17_run {s : Nat × Nat} (h : fitB s) : R17 [st2 s.1 s.2] [] = some (oS [] (ba (textB s))) := by
  have key : ∀ o, (f17t s.1 s.2).ev = o → R17 [st2 s.1 s.2] [] = o := fun o h => by
    rw [Tr.ev_run] at h
    exact h
  refine key _ ?_
  rw [f17t_eq]
  have e16 := p16 h []
  have hnum := runs_num s
  have hle := fun r (hr : r ∈ runsB s) => runs_le (s := s) (r := r) hr
  have htx : textB s = txt (runsB s) := rfl
  rw [htx]
  generalize runsB s = L at e16 hnum hle
  cases L with
  | nil =>
    have e16 : P16 [st2 s.1 s.2] [] = some (oNl [] ()) := e16
    have hl : LoopTo TT t17.runs (HSr 17) lp17 inv17z (out17 (ba [])) := by
      refine LoopTo.last (orc := t17) (lo := noLo) (fun _ _ _ _ h => h) (LoOk2.no _) ?_ (by simp [out17])
      have := rk17z_eq
      rw [Tr.ev_run] at this
      exact this
    exact aT (fnS_yes (o1 := oNl []) oNl_inj e16) (gStep (fnS_eq (out := oNl []) oNl_inj e16) (gStep (loS_eq (out := out17) out17_inj hl) rfl))
  | cons p l =>
    have e16 : P16 [st2 s.1 s.2] [] = some (oOw [] (rowC (p :: l))) := e16
    have hl := loop17 (p :: l) [] (by simp only [List.nil_append]; omega) (by simpa using hle)
    exact aF (fnS_no e16 oNl_no) (gStep (fnS_eq (out := oOw []) oOw_inj e16) (gStep (loS_eq (out := out17) out17_inj hl) rfl))
theorem p17 {s : Nat × Nat} (h : fitB s) (G : List Ent) : P17 [st2 s.1 s.2] G = some (oS G (ba (textB s))) := by
  unfold P17
  exact pureS_eq rfl (f17_run h) rfl
end Go.Eng
end

/- Sets of runs: the document's Parse is refP. -/
section
namespace Go.Eng
open Go
set_option maxRecDepth 100000
set_option linter.unusedSimpArgs false

theorem rk11b_eq (s : ByteArray) (a b nx q k : Int) : (rk11b s a b nx q k).ev =
  (rAsk (decide (k ≤ q))
   (rAsk (decide (k < (128 : Int)))
    (rGet (fnS (fun (p : (Int × Int) × Int) => ((AV.tup [(AV.agg [(AV.dat (D.int IntKind.u64 p.1.1)), (AV.dat (D.int IntKind.u64 p.1.2))]), (AV.dat (D.int IntKind.i64 p.2))]), [])) (P22 [(AV.agg [(AV.dat (D.int IntKind.u64 a)), (AV.dat (D.int IntKind.u64 b))]), (AV.dat (D.int IntKind.i64 k))] [])) fun x1 =>
     (some (Ex.norm, (St.mk (mkT 0 74 [(0, (AV.dat (D.str s))), (2, (AV.ptr (Ref.loc 0) 0)), (4, (AV.ptr (Ref.loc 1) 0)), (7, (AV.dat (D.int IntKind.i64 nx))), (8, (AV.dat (D.int IntKind.i64 q))), (9, (AV.dat (D.int IntKind.i64 (IntKind.wrap IntKind.i64 (k + (1 : Int))))))]) (Mem.mk [(Option.some (Ent.obj [(AV.dat (D.int IntKind.u64 (0 : Int))), (AV.dat (D.int IntKind.u64 (0 : Int)))])), (Option.some (Ent.obj [(AV.dat (D.int IntKind.u64 x1.1.1)), (AV.dat (D.int IntKind.u64 x1.1.2))]))] [] 0))))
    )
    (some ((Ex.exit 2), (St.mk (mkT 0 74 [(0, (AV.dat (D.str s))), (2, (AV.ptr (Ref.loc 0) 0)), (4, (AV.ptr (Ref.loc 1) 0)), (7, (AV.dat (D.int IntKind.i64 nx)))]) (Mem.mk [(Option.some (Ent.obj [(AV.dat (D.int IntKind.u64 (0 : Int))), (AV.dat (D.int IntKind.u64 (0 : Int)))])), (Option.some (Ent.obj [(AV.dat (D.int IntKind.u64 a)), (AV.dat (D.int IntKind.u64 b))]))] [] 0))))
   )
   (some ((Ex.exit 2), (St.mk (mkT 0 74 [(0, (AV.dat (D.str s))), (2, (AV.ptr (Ref.loc 0) 0)), (4, (AV.ptr (Ref.loc 1) 0)), (7, (AV.dat (D.int IntKind.i64 nx)))]) (Mem.mk [(Option.some (Ent.obj [(AV.dat (D.int IntKind.u64 (0 : Int))), (AV.dat (D.int IntKind.u64 (0 : Int)))])), (Option.some (Ent.obj [(AV.dat (D.int IntKind.u64 a)), (AV.dat (D.int IntKind.u64 b))]))] [] 0))))
  )
  := by kernel_rfl
theorem rk11_eq (s : ByteArray) (a b i : Int) : (rk11 s a b i).ev =
  (rAsk (decide (i < (((ByteArray.size s) : Nat) : Int)))
   (rGet (fnS (fun (p : Int × Int) => ((AV.tup [(AV.dat (D.int IntKind.i64 p.1)), (AV.dat (D.int IntKind.i64 p.2))]), [])) (P25 [(AV.dat (D.str s)), (AV.dat (D.int IntKind.i64 i))] [])) fun x1 =>
    (rAsk (decide (x1.2 < (((ByteArray.size s) : Nat) : Int)))
     (rAsk (decide ((0 : Int) ≤ x1.2))
      (rGet s[(Int.toNat x1.2)]? fun x2 =>
       (rAsk ((((UInt8.toNat x2) : Nat) : Int) == (45 : Int))
        (rGet (fnS (fun (p : Int × Int) => ((AV.tup [(AV.dat (D.int IntKind.i64 p.1)), (AV.dat (D.int IntKind.i64 p.2))]), [])) (P25 [(AV.dat (D.str s)), (AV.dat (D.int IntKind.i64 (IntKind.wrap IntKind.i64 (x1.2 + (1 : Int)))))] [])) fun x3 =>
         (rGet (loS TT (TOrc.runs t11) (HSr 11) lp11b (out11b (AV.dat (D.str s)) (AV.dat (D.int IntKind.i64 x3.2))) (St.mk (mkT 0 74 [(0, (AV.dat (D.str s))), (2, (AV.ptr (Ref.loc 0) 0)), (4, (AV.ptr (Ref.loc 1) 0)), (7, (AV.dat (D.int IntKind.i64 x3.2))), (8, (AV.dat (D.int IntKind.i64 x3.1))), (9, (AV.dat (D.int IntKind.i64 x1.1)))]) (Mem.mk [(Option.some (Ent.obj [(AV.dat (D.int IntKind.u64 (0 : Int))), (AV.dat (D.int IntKind.u64 (0 : Int)))])), (Option.some (Ent.obj [(AV.dat (D.int IntKind.u64 a)), (AV.dat (D.int IntKind.u64 b))]))] [] 0))) fun x4 =>
          (rAsk (decide (x3.2 < (((ByteArray.size s) : Nat) : Int)))
           (rAsk (decide ((0 : Int) ≤ x3.2))
            (rGet s[(Int.toNat x3.2)]? fun x5 =>
             (rAsk ((((UInt8.toNat x5) : Nat) : Int) != (44 : Int))
              (some (Ex.ret, (St.mk (mkT 0 74 [(0, (AV.dat (D.str s))), (2, (AV.ptr (Ref.loc 0) 0)), (3, (AV.dat (D.int IntKind.i64 (6 : Int)))), (4, (AV.ptr (Ref.loc 1) 0))]) (Mem.mk [(Option.some (Ent.obj [(AV.dat (D.int IntKind.u64 (0 : Int))), (AV.dat (D.int IntKind.u64 (0 : Int)))])), (Option.some (Ent.obj [(AV.dat (D.int IntKind.u64 x4.1)), (AV.dat (D.int IntKind.u64 x4.2))]))] [] 0))))
              (some (Ex.norm, (St.mk (mkT 0 74 [(0, (AV.dat (D.str s))), (2, (AV.ptr (Ref.loc 0) 0)), (4, (AV.ptr (Ref.loc 1) 0)), (5, (AV.dat (D.int IntKind.i64 (IntKind.wrap IntKind.i64 (x3.2 + (1 : Int))))))]) (Mem.mk [(Option.some (Ent.obj [(AV.dat (D.int IntKind.u64 (0 : Int))), (AV.dat (D.int IntKind.u64 (0 : Int)))])), (Option.some (Ent.obj [(AV.dat (D.int IntKind.u64 x4.1)), (AV.dat (D.int IntKind.u64 x4.2))]))] [] 0))))
             )
            )
            none
           )
           (some (Ex.norm, (St.mk (mkT 0 74 [(0, (AV.dat (D.str s))), (2, (AV.ptr (Ref.loc 0) 0)), (4, (AV.ptr (Ref.loc 1) 0)), (5, (AV.dat (D.int IntKind.i64 (IntKind.wrap IntKind.i64 (x3.2 + (1 : Int))))))]) (Mem.mk [(Option.some (Ent.obj [(AV.dat (D.int IntKind.u64 (0 : Int))), (AV.dat (D.int IntKind.u64 (0 : Int)))])), (Option.some (Ent.obj [(AV.dat (D.int IntKind.u64 x4.1)), (AV.dat (D.int IntKind.u64 x4.2))]))] [] 0))))
          )
         )
        )
        (rGet (loS TT (TOrc.runs t11) (HSr 11) lp11b (out11b (AV.dat (D.str s)) (AV.dat (D.int IntKind.i64 x1.2))) (St.mk (mkT 0 74 [(0, (AV.dat (D.str s))), (2, (AV.ptr (Ref.loc 0) 0)), (4, (AV.ptr (Ref.loc 1) 0)), (7, (AV.dat (D.int IntKind.i64 x1.2))), (8, (AV.dat (D.int IntKind.i64 x1.1))), (9, (AV.dat (D.int IntKind.i64 x1.1)))]) (Mem.mk [(Option.some (Ent.obj [(AV.dat (D.int IntKind.u64 (0 : Int))), (AV.dat (D.int IntKind.u64 (0 : Int)))])), (Option.some (Ent.obj [(AV.dat (D.int IntKind.u64 a)), (AV.dat (D.int IntKind.u64 b))]))] [] 0))) fun x6 =>
         (rAsk (decide (x1.2 < (((ByteArray.size s) : Nat) : Int)))
          (rAsk (decide ((0 : Int) ≤ x1.2))
           (rGet s[(Int.toNat x1.2)]? fun x7 =>
            (rAsk ((((UInt8.toNat x7) : Nat) : Int) != (44 : Int))
             (some (Ex.ret, (St.mk (mkT 0 74 [(0, (AV.dat (D.str s))), (2, (AV.ptr (Ref.loc 0) 0)), (3, (AV.dat (D.int IntKind.i64 (6 : Int)))), (4, (AV.ptr (Ref.loc 1) 0))]) (Mem.mk [(Option.some (Ent.obj [(AV.dat (D.int IntKind.u64 (0 : Int))), (AV.dat (D.int IntKind.u64 (0 : Int)))])), (Option.some (Ent.obj [(AV.dat (D.int IntKind.u64 x6.1)), (AV.dat (D.int IntKind.u64 x6.2))]))] [] 0))))
             (some (Ex.norm, (St.mk (mkT 0 74 [(0, (AV.dat (D.str s))), (2, (AV.ptr (Ref.loc 0) 0)), (4, (AV.ptr (Ref.loc 1) 0)), (5, (AV.dat (D.int IntKind.i64 (IntKind.wrap IntKind.i64 (x1.2 + (1 : Int))))))]) (Mem.mk [(Option.some (Ent.obj [(AV.dat (D.int IntKind.u64 (0 : Int))), (AV.dat (D.int IntKind.u64 (0 : Int)))])), (Option.some (Ent.obj [(AV.dat (D.int IntKind.u64 x6.1)), (AV.dat (D.int IntKind.u64 x6.2))]))] [] 0))))
            )
           )
           none
          )
          (some (Ex.norm, (St.mk (mkT 0 74 [(0, (AV.dat (D.str s))), (2, (AV.ptr (Ref.loc 0) 0)), (4, (AV.ptr (Ref.loc 1) 0)), (5, (AV.dat (D.int IntKind.i64 (IntKind.wrap IntKind.i64 (x1.2 + (1 : Int))))))]) (Mem.mk [(Option.some (Ent.obj [(AV.dat (D.int IntKind.u64 (0 : Int))), (AV.dat (D.int IntKind.u64 (0 : Int)))])), (Option.some (Ent.obj [(AV.dat (D.int IntKind.u64 x6.1)), (AV.dat (D.int IntKind.u64 x6.2))]))] [] 0))))
         )
        )
       )
      )
      none
     )
     (rGet (loS TT (TOrc.runs t11) (HSr 11) lp11b (out11b (AV.dat (D.str s)) (AV.dat (D.int IntKind.i64 x1.2))) (St.mk (mkT 0 74 [(0, (AV.dat (D.str s))), (2, (AV.ptr (Ref.loc 0) 0)), (4, (AV.ptr (Ref.loc 1) 0)), (7, (AV.dat (D.int IntKind.i64 x1.2))), (8, (AV.dat (D.int IntKind.i64 x1.1))), (9, (AV.dat (D.int IntKind.i64 x1.1)))]) (Mem.mk [(Option.some (Ent.obj [(AV.dat (D.int IntKind.u64 (0 : Int))), (AV.dat (D.int IntKind.u64 (0 : Int)))])), (Option.some (Ent.obj [(AV.dat (D.int IntKind.u64 a)), (AV.dat (D.int IntKind.u64 b))]))] [] 0))) fun x8 =>
      (rAsk (decide (x1.2 < (((ByteArray.size s) : Nat) : Int)))
       (rAsk (decide ((0 : Int) ≤ x1.2))
        (rGet s[(Int.toNat x1.2)]? fun x9 =>
         (rAsk ((((UInt8.toNat x9) : Nat) : Int) != (44 : Int))
          (some (Ex.ret, (St.mk (mkT 0 74 [(0, (AV.dat (D.str s))), (2, (AV.ptr (Ref.loc 0) 0)), (3, (AV.dat (D.int IntKind.i64 (6 : Int)))), (4, (AV.ptr (Ref.loc 1) 0))]) (Mem.mk [(Option.some (Ent.obj [(AV.dat (D.int IntKind.u64 (0 : Int))), (AV.dat (D.int IntKind.u64 (0 : Int)))])), (Option.some (Ent.obj [(AV.dat (D.int IntKind.u64 x8.1)), (AV.dat (D.int IntKind.u64 x8.2))]))] [] 0))))
          (some (Ex.norm, (St.mk (mkT 0 74 [(0, (AV.dat (D.str s))), (2, (AV.ptr (Ref.loc 0) 0)), (4, (AV.ptr (Ref.loc 1) 0)), (5, (AV.dat (D.int IntKind.i64 (IntKind.wrap IntKind.i64 (x1.2 + (1 : Int))))))]) (Mem.mk [(Option.some (Ent.obj [(AV.dat (D.int IntKind.u64 (0 : Int))), (AV.dat (D.int IntKind.u64 (0 : Int)))])), (Option.some (Ent.obj [(AV.dat (D.int IntKind.u64 x8.1)), (AV.dat (D.int IntKind.u64 x8.2))]))] [] 0))))
         )
        )
        none
       )
       (some (Ex.norm, (St.mk (mkT 0 74 [(0, (AV.dat (D.str s))), (2, (AV.ptr (Ref.loc 0) 0)), (4, (AV.ptr (Ref.loc 1) 0)), (5, (AV.dat (D.int IntKind.i64 (IntKind.wrap IntKind.i64 (x1.2 + (1 : Int))))))]) (Mem.mk [(Option.some (Ent.obj [(AV.dat (D.int IntKind.u64 (0 : Int))), (AV.dat (D.int IntKind.u64 (0 : Int)))])), (Option.some (Ent.obj [(AV.dat (D.int IntKind.u64 x8.1)), (AV.dat (D.int IntKind.u64 x8.2))]))] [] 0))))
      )
     )
    )
   )
   (some ((Ex.exit 0), (St.mk (mkT 0 74 [(0, (AV.dat (D.str s))), (2, (AV.ptr (Ref.loc 0) 0)), (4, (AV.ptr (Ref.loc 1) 0))]) (Mem.mk [(Option.some (Ent.obj [(AV.dat (D.int IntKind.u64 (0 : Int))), (AV.dat (D.int IntKind.u64 (0 : Int)))])), (Option.some (Ent.obj [(AV.dat (D.int IntKind.u64 a)), (AV.dat (D.int IntKind.u64 b))]))] [] 0))))
  )
  := by kernel_rfl
theorem f11t_eq (s : ByteArray) : (f11t s).ev =
  (rAsk (Option.isSome (loS TT (TOrc.runs t11) (HSr 11) lp11 (out11 (AV.dat (D.str s))) (St.mk (mkT 0 74 [(0, (AV.dat (D.str s))), (2, (AV.ptr (Ref.loc 0) 0)), (4, (AV.ptr (Ref.loc 1) 0)), (5, (AV.dat (D.int IntKind.i64 (0 : Int))))]) (Mem.mk [(Option.some (Ent.obj [(AV.dat (D.int IntKind.u64 (0 : Int))), (AV.dat (D.int IntKind.u64 (0 : Int)))])), (Option.some (Ent.obj [(AV.dat (D.int IntKind.u64 (0 : Int))), (AV.dat (D.int IntKind.u64 (0 : Int)))]))] [] 0))))
   (rGet (loS TT (TOrc.runs t11) (HSr 11) lp11 (out11 (AV.dat (D.str s))) (St.mk (mkT 0 74 [(0, (AV.dat (D.str s))), (2, (AV.ptr (Ref.loc 0) 0)), (4, (AV.ptr (Ref.loc 1) 0)), (5, (AV.dat (D.int IntKind.i64 (0 : Int))))]) (Mem.mk [(Option.some (Ent.obj [(AV.dat (D.int IntKind.u64 (0 : Int))), (AV.dat (D.int IntKind.u64 (0 : Int)))])), (Option.some (Ent.obj [(AV.dat (D.int IntKind.u64 (0 : Int))), (AV.dat (D.int IntKind.u64 (0 : Int)))]))] [] 0))) fun x1 =>
    (rGet (fnS (fun (zs : ByteArray) => ((AV.dat (D.str zs)), [])) (P17 [(AV.agg [(AV.dat (D.int IntKind.u64 x1.1)), (AV.dat (D.int IntKind.u64 x1.2))])] [])) fun x2 =>
     (rAsk (!((ByteArray.toList x2) == (ByteArray.toList s)))
      (some ((AV.tup [(AV.agg [(AV.dat (D.int IntKind.u64 (0 : Int))), (AV.dat (D.int IntKind.u64 (0 : Int)))]), (AV.dat (D.int IntKind.i64 (6 : Int)))]), []))
      (some ((AV.tup [(AV.agg [(AV.dat (D.int IntKind.u64 x1.1)), (AV.dat (D.int IntKind.u64 x1.2))]), (AV.dat (D.int IntKind.i64 (0 : Int)))]), []))
     )
    )
   )
   (rGet (loS TT (TOrc.runs t11) (HSr 11) lp11 (out11r (AV.dat (D.str s))) (St.mk (mkT 0 74 [(0, (AV.dat (D.str s))), (2, (AV.ptr (Ref.loc 0) 0)), (4, (AV.ptr (Ref.loc 1) 0)), (5, (AV.dat (D.int IntKind.i64 (0 : Int))))]) (Mem.mk [(Option.some (Ent.obj [(AV.dat (D.int IntKind.u64 (0 : Int))), (AV.dat (D.int IntKind.u64 (0 : Int)))])), (Option.some (Ent.obj [(AV.dat (D.int IntKind.u64 (0 : Int))), (AV.dat (D.int IntKind.u64 (0 : Int)))]))] [] 0))) fun _ =>
    (some ((AV.tup [(AV.agg [(AV.dat (D.int IntKind.u64 (0 : Int))), (AV.dat (D.int IntKind.u64 (0 : Int)))]), (AV.dat (D.int IntKind.i64 (6 : Int)))]), []))
   )
  )
  := by kernel_rfl
theorem out11b_inj {a c : AV} : ∀ x y, out11b a c x = out11b a c y → x = y := by
  rintro ⟨a, b⟩ ⟨c, d⟩ h
  simp [out11b, ob2] at h
  obtain ⟨rfl, rfl⟩ := h
  rfl
theorem out11_inj {a : AV} : ∀ x y, out11 a x = out11 a y → x = y := by
  rintro ⟨a, b⟩ ⟨c, d⟩ h
  simp [out11, ob2] at h
  obtain ⟨rfl, rfl⟩ := h
  rfl
theorem out11r_inj {a : AV} : ∀ x y, out11r a x = out11r a y → x = y := by
  rintro ⟨a, b⟩ ⟨c, d⟩ h
  simp [out11r, ob2] at h
  obtain ⟨rfl, rfl⟩ := h
  rfl
theorem out11_no {a : AV} {y : Int × Int} : ∀ x, out11 a x ≠ out11r a y := fun x h => by simp [out11, out11r] at h
theorem u8_eq (k : UInt8) : (((k.toNat : Nat) : Int) == ((k.toNat : Nat) : Int)) = true := by simp
theorem u8_ne {e k : UInt8} (h : e ≠ k) : (((e.toNat : Nat) : Int) == ((k.toNat : Nat) : Int)) = false := by
  rw [beq_eq_false_iff_ne]
  intro q
  exact h (UInt8.toNat_inj.1 (Int.ofNat_inj.1 q))
theorem numL_suf : ∀ (l : List UInt8) (n : Int), ∃ w, l = w ++ (numL n l).2
  | [], _ => ⟨[], rfl⟩
  | d :: l, n => by
    unfold numL
    split
    · obtain ⟨w, hw⟩ := numL_suf l (10 * n + (d.toNat - 48))
      exact ⟨d :: w, by rw [List.cons_append, ← hw]⟩
    · exact ⟨[], rfl⟩
attribute [local irreducible] fnS loS tround P22 P25 P17
theorem go11b {s : ByteArray} {a b nx q k : Int} {o} (h : (rk11b s a b nx q k).ev = o) : (tround TT t11 noLo (HSr 11) lp11b (inv11b s 0 0 a b nx q k)).run = o := by
  rw [Tr.ev_run] at h
  exact h
theorem loop11b {t : ByteArray} {m : Nat} {q nx : Int} : ∀ (d j : Nat) (s : Nat × Nat), fitB s → m + j ≤ 10000 → (min q 127 + 1 - ((m + j : Nat) : Int)).toNat = d →
    LoopTo TT t11.runs (HSr 11) lp11b (inv11b t 0 0 s.1 s.2 nx q ((m + j : Nat) : Int)) (out11b (.dat (.str t)) (jn nx) (c2 (fillR m j d s)))
  | 0, j, s, hs, hj, hd => by
    refine LoopTo.last (orc := t11) (lo := noLo) (fun _ _ _ _ h => h) (LoOk2.no _) (go11b ?_) (by simp [out11b])
    rw [rk11b_eq]
    by_cases h1 : ((m + j : Nat) : Int) ≤ q
    · exact aT (decide_eq_true h1) (aF (by rw [decide_eq_false_iff_not]; omega) rfl)
    · exact aF (decide_eq_false h1) rfl
  | d + 1, j, s, hs, hj, hd => by
    have ih := loop11b (t := t) (m := m) (q := q) (nx := nx) d (j + 1) (setB s (m + j)) (setB_fit hs (by omega)) (by omega) (by omega)
    have step : (tround TT t11 noLo (HSr 11) lp11b (inv11b t 0 0 s.1 s.2 nx q ((m + j : Nat) : Int))).run = some (.norm, inv11b t 0 0 (setB s (m + j)).1 (setB s (m + j)).2 nx q ((m + (j + 1) : Nat) : Int)) := by
      refine go11b ?_
      rw [rk11b_eq, w64 (n := m + (j + 1)) (by omega) (x := ((m + j : Nat) : Int) + 1) (by omega)]
      exact aT (by rw [decide_eq_true_eq]; omega) (aT (by rw [decide_eq_true_eq]; omega) (gStep (fnS_eq (out := oW []) oW_inj' (p22 hs (i := m + j) (by omega) [])) rfl))
    rw [fillR]
    exact LoopTo.more (orc := t11) (lo := noLo) (fun _ _ _ _ h => h) (LoOk2.no _) step ih
theorem fill11 {t : ByteArray} {a q nx : Int} {s : Nat × Nat} (hs : fitB s) (h0 : 0 ≤ a) (h1 : a ≤ 9999) :
    loS TT t11.runs (HSr 11) lp11b (out11b (.dat (.str t)) (jn nx)) (inv11b t 0 0 s.1 s.2 nx q a) = some (c2 (fillTo a q s)) := by
  have hl := loop11b (t := t) (m := a.toNat) (q := q) (nx := nx) _ 0 s hs (by omega) rfl
  rw [Nat.add_zero, Int.toNat_of_nonneg h0] at hl
  exact loS_eq (out := out11b (.dat (.str t)) (jn nx)) out11b_inj hl
def tail11 (s : ByteArray) (i a b : Int) : Option (Ex × St) :=
  (rAsk (decide (i < (((ByteArray.size s) : Nat) : Int)))
   (rAsk (decide ((0 : Int) ≤ i))
    (rGet s[(Int.toNat i)]? fun x5 =>
     (rAsk ((((UInt8.toNat x5) : Nat) : Int) != (44 : Int))
      (some (out11r (.dat (.str s)) (a, b)))
      (some (Ex.norm, inv11 s a b (IntKind.wrap IntKind.i64 (i + (1 : Int)))))))
    none)
   (some (Ex.norm, inv11 s a b (IntKind.wrap IntKind.i64 (i + (1 : Int))))))
theorem go11 {s : ByteArray} {a b i : Int} {o} (h : (rk11 s a b i).ev = o) : (tround TT t11 lo11b (HSr 11) lp11 (inv11 s a b i)).run = o := by
  rw [Tr.ev_run] at h
  exact h
theorem lo11b_ok : LoOk2 TT t11.runs (HSr 11) lo11b lp11 := by
  refine LoOk2.of lp11 fun b hb st r h => ?_
  have hl : loops lp11 = [lp11b] := by kernel_rfl
  rw [hl] at hb
  obtain rfl := List.mem_singleton.1 hb
  rw [show firstRegion lp11b = 9 from by kernel_rfl] at h
  exact tlo_ok h
def res11 (t : List UInt8) (st : St) : Option (Nat × Nat) → Prop
  | some x => LoopTo TT t11.runs (HSr 11) lp11 st (out11 (.dat (.str (ba t))) (c2 x))
  | none => ∃ p, LoopTo TT t11.runs (HSr 11) lp11 st (out11r (.dat (.str (ba t))) p)
theorem end11 {t : List UInt8} {s : Nat × Nat} {i : Int} (hi : (t.length : Int) ≤ i) : res11 t (inv11 (ba t) s.1 s.2 i) (some s) := by
  refine LoopTo.last (orc := t11) (lo := lo11b) (fun _ _ _ _ h => h) lo11b_ok (go11 ?_) (by simp [out11])
  rw [rk11_eq, ba_sz]
  exact aF (by rw [decide_eq_false_iff_not]; omega) rfl
def onR (f : Nat) (rest : List UInt8) (x : Nat × Nat) : Option (Nat × Nat) := match rest with
  | [] => some x
  | e :: l3 => if e = 44 then refGo f l3 x else none
theorem fin11 {f : Nat} {t pre rest : List UInt8} {x : Nat × Nat} {st : St} (ht : t = pre ++ rest) (hl : t.length ≤ 1000)
    (step : (tround TT t11 lo11b (HSr 11) lp11 st).run = tail11 (ba t) pre.length x.1 x.2)
    (ih : ∀ l3, rest = 44 :: l3 → res11 t (inv11 (ba t) x.1 x.2 ((pre.length + 1 : Nat) : Int)) (refGo f l3 x)) : res11 t st (onR f rest x) := by
  have hlen : t.length = pre.length + rest.length := by rw [ht, List.length_append]
  have hw : IntKind.wrap IntKind.i64 (((pre.length : Nat) : Int) + (1 : Int)) = ((pre.length + 1 : Nat) : Int) := w64 (by omega) (by omega)
  cases rest with
  | nil =>
    have e : tail11 (ba t) pre.length x.1 x.2 = some (.norm, inv11 (ba t) x.1 x.2 ((pre.length + 1 : Nat) : Int)) := by
      unfold tail11
      rw [hw, ba_sz]
      exact aF (by rw [decide_eq_false_iff_not, hlen, List.length_nil]; omega) rfl
    rw [e] at step
    exact LoopTo.more (orc := t11) (lo := lo11b) (fun _ _ _ _ h => h) lo11b_ok step (end11 (s := x) (by rw [hlen, List.length_nil]; omega))
  | cons e l3 =>
    have a0 : decide (((pre.length : Nat) : Int) < (((ba t).size : Nat) : Int)) = true := by rw [decide_eq_true_eq, ba_sz, hlen, List.length_cons]; omega
    have b0 : decide ((0 : Int) ≤ ((pre.length : Nat) : Int)) = true := by rw [decide_eq_true_eq]; omega
    have hat : (ba t)[Int.toNat ((pre.length : Nat) : Int)]? = some e := by rw [ht]; exact ba_midR
    unfold onR
    by_cases he : e = 44
    · simp only [if_pos he]
      subst he
      have q : tail11 (ba t) pre.length x.1 x.2 = some (.norm, inv11 (ba t) x.1 x.2 ((pre.length + 1 : Nat) : Int)) := by
        unfold tail11
        rw [hw]
        exact aT a0 (aT b0 (gStep hat (aF rfl rfl)))
      rw [q] at step
      have ih := ih l3 rfl
      cases hr : refGo f l3 x with
      | some y =>
        rw [hr] at ih
        exact LoopTo.more (orc := t11) (lo := lo11b) (fun _ _ _ _ h => h) lo11b_ok step ih
      | none =>
        rw [hr] at ih
        obtain ⟨p, ih⟩ := ih
        exact ⟨p, LoopTo.more (orc := t11) (lo := lo11b) (fun _ _ _ _ h => h) lo11b_ok step ih⟩
    · simp only [if_neg he]
      have q : tail11 (ba t) pre.length x.1 x.2 = some (out11r (.dat (.str (ba t))) ((x.1 : Int), (x.2 : Int))) := by
        unfold tail11
        rw [hw]
        refine aT a0 (aT b0 (gStep hat (aT ?_ rfl)))
        have := u8_ne (k := 44) he
        rw [bne, show ((44 : Int)) = (((44 : UInt8).toNat : Nat) : Int) from rfl, this]
        rfl
      rw [q] at step
      exact ⟨_, LoopTo.last (orc := t11) (lo := lo11b) (fun _ _ _ _ h => h) lo11b_ok step (by simp [out11r])⟩
theorem loop11 : ∀ (f : Nat) (pre rest : List UInt8) (s : Nat × Nat), (pre ++ rest).length ≤ 1000 → rest.length ≤ f → fitB s →
    res11 (pre ++ rest) (inv11 (ba (pre ++ rest)) s.1 s.2 ((pre.length : Nat) : Int)) (refGo f rest s)
  | f, pre, [], s, hl, hf, hs => by
    have e : refGo f [] s = some s := by cases f <;> rfl
    rw [e]
    exact end11 (by rw [List.append_nil]; omega)
  | 0, pre, c :: l, s, hl, hf, hs => by rw [List.length_cons] at hf; omega
  | f + 1, pre, c :: l, s, hl, hf, hs => by
    have hn0 := numL_nn (c :: l) 0 (by omega)
    have hn1 := numL_le (c :: l) 0 (by omega)
    have hlen := hl
    rw [List.length_append] at hlen
    have e25 := fnS_eq (out := oN2 []) oN2_inj (p25 (pre := pre) (rest := c :: l) (by omega) [])
    have a0 : decide (((pre.length : Nat) : Int) < (((ba (pre ++ c :: l)).size : Nat) : Int)) = true := by rw [decide_eq_true_eq, ba_sz, List.length_append, List.length_cons]; omega
    obtain ⟨w, hw⟩ := numL_suf (c :: l) 0
    have hlw : (c :: l).length = w.length + (numL 0 (c :: l)).2.length := by rw [← List.length_append, ← hw]
    have hi : pre.length + (c :: l).length - (numL 0 (c :: l)).2.length = (pre ++ w).length := by rw [List.length_append]; omega
    rw [hi] at e25
    have ht : pre ++ c :: l = (pre ++ w) ++ (numL 0 (c :: l)).2 := by rw [List.append_assoc, ← hw]
    have e1 : refGo (f + 1) (c :: l) s = match (match (numL 0 (c :: l)).2 with
      | e :: l' => if e = 45 then numL 0 l' else numL 0 (c :: l)
      | [] => numL 0 (c :: l)) with
      | (b, r) => onR f r (fillTo (numL 0 (c :: l)).1 b s) := by
      rw [refGo]
      rfl
    rw [e1]
    -- what stands behind a comma
    have next : ∀ (p2 l3 : List UInt8) (x : Nat × Nat), fitB x → pre ++ c :: l = p2 ++ 44 :: l3 → pre.length < p2.length + 1 → res11 (pre ++ c :: l) (inv11 (ba (pre ++ c :: l)) x.1 x.2 ((p2.length + 1 : Nat) : Int)) (refGo f l3 x) := by
      intro p2 l3 x hx h2 h3
      have e2 : pre ++ c :: l = (p2 ++ [44]) ++ l3 := by rw [h2]; simp
      have h4 : (pre ++ c :: l).length = p2.length + 1 + l3.length := by rw [e2]; simp; omega
      rw [List.length_append] at h4
      have := loop11 f (p2 ++ [44]) l3 x (by rw [← e2]; exact hl) (by omega) hx
      rw [← e2, List.length_append, List.length_singleton] at this
      exact this
    have hfit := fun b => fillTo_fit (a := (numL 0 (c :: l)).1) (b := b) hn0 hs
    cases hr : (numL 0 (c :: l)).2 with
    | nil =>
      rw [hr, List.append_nil] at ht
      have fl := fill11 (t := ba (pre ++ c :: l)) (q := (numL 0 (c :: l)).1) (nx := (((pre ++ w).length : Nat) : Int)) hs hn0 hn1
      rw [show (numL 0 (c :: l)) = ((numL 0 (c :: l)).1, []) from Prod.ext rfl hr]
      simp only
      refine fin11 (pre := pre ++ w) (rest := []) (x := fillTo (numL 0 (c :: l)).1 (numL 0 (c :: l)).1 s) (by rw [List.append_nil]; exact ht) hl (go11 ?_) (fun _ h => by cases h)
      rw [rk11_eq]
      refine aT a0 (gStep e25 (aF ?_ (gStep fl rfl)))
      rw [decide_eq_false_iff_not, ba_sz, ht]
      omega
    | cons e l' =>
      rw [hr] at ht hlw
      have a1 : decide ((((pre ++ w).length : Nat) : Int) < (((ba (pre ++ c :: l)).size : Nat) : Int)) = true := by rw [decide_eq_true_eq, ba_sz, ht]; simp only [List.length_append, List.length_cons]; omega
      have b1 : decide ((0 : Int) ≤ (((pre ++ w).length : Nat) : Int)) = true := by rw [decide_eq_true_eq]; omega
      have hat : (ba (pre ++ c :: l))[Int.toNat (((pre ++ w).length : Nat) : Int)]? = some e := by rw [ht]; exact ba_midR
      simp only
      by_cases he : e = 45
      · rw [if_pos he]
        subst he
        obtain ⟨w2, hw2⟩ := numL_suf l' 0
        have hlw2 : l'.length = w2.length + (numL 0 l').2.length := by rw [← List.length_append, ← hw2]
        have ht1 : pre ++ c :: l = (pre ++ w ++ [(45 : UInt8)]) ++ l' := by rw [ht]; simp
        have ht2 : pre ++ c :: l = (pre ++ w ++ [(45 : UInt8)] ++ w2) ++ (numL 0 l').2 := by rw [ht1, List.append_assoc _ w2, ← hw2]
        have hl2 : (pre ++ w ++ [(45 : UInt8)]).length + l'.length ≤ 2000 := by rw [← List.length_append, ← ht1]; omega
        have hx3 : (pre ++ w ++ [(45 : UInt8)] ++ w2).length = (pre ++ w ++ [(45 : UInt8)]).length + w2.length := List.length_append
        have e25b := fnS_eq (out := oN2 []) oN2_inj (p25 (pre := pre ++ w ++ [(45 : UInt8)]) (rest := l') hl2 [])
        have hx5 : (pre ++ w ++ [(45 : UInt8)]).length = (pre ++ w).length + 1 := by rw [List.length_append]; rfl
        have hx4 : (pre ++ w ++ [(45 : UInt8)]).length + l'.length - (numL 0 l').2.length = (pre ++ w ++ [(45 : UInt8)] ++ w2).length := by omega
        rw [← ht1, hx4] at e25b
        have hwi : IntKind.wrap IntKind.i64 ((((pre ++ w).length : Nat) : Int) + (1 : Int)) = (((pre ++ w ++ [(45 : UInt8)]).length : Nat) : Int) := w64 (by omega) (by omega)
        have fl := fill11 (t := ba (pre ++ c :: l)) (q := (numL 0 l').1) (nx := (((pre ++ w ++ [(45 : UInt8)] ++ w2).length : Nat) : Int)) hs hn0 hn1
        refine fin11 (pre := pre ++ w ++ [(45 : UInt8)] ++ w2) (rest := (numL 0 l').2) (x := fillTo (numL 0 (c :: l)).1 (numL 0 l').1 s) ht2 hl (go11 ?_) (fun l3 h3 => next _ l3 _ (hfit _) (by rw [ht2, h3]) (by simp only [List.length_append]; omega))
        rw [rk11_eq]
        refine aT a0 (gStep e25 (aT a1 (aT b1 (gStep hat (aT rfl (gStep (x := ((numL 0 l').1, (((pre ++ w ++ [(45 : UInt8)] ++ w2).length : Nat) : Int))) ?_ (gStep fl rfl)))))))
        rw [hwi]
        exact e25b
      · rw [if_neg he]
        have fl := fill11 (t := ba (pre ++ c :: l)) (q := (numL 0 (c :: l)).1) (nx := (((pre ++ w).length : Nat) : Int)) hs hn0 hn1
        rw [show (numL 0 (c :: l)) = ((numL 0 (c :: l)).1, e :: l') from Prod.ext rfl hr]
        simp only
        refine fin11 (pre := pre ++ w) (rest := e :: l') (x := fillTo (numL 0 (c :: l)).1 (numL 0 (c :: l)).1 s) ht hl (go11 ?_) (fun l3 h3 => next _ l3 _ (hfit _) (by rw [ht, h3]) (by simp only [List.length_append]; omega))
        rw [rk11_eq]
        exact aT a0 (gStep e25 (aT a1 (aT b1 (gStep hat (aF (u8_ne (k := 45) he) (gStep fl rfl))))))
theorem f11_run {t : List UInt8} (h : t.length ≤ 1000) : R11 [.dat (.str (ba t))] [] = some (oW [] (pOf (refP t))) := by
  have key : ∀ o, (f11t (ba t)).ev = o → R11 [.dat (.str (ba t))] [] = o := fun o h => by
    rw [Tr.ev_run] at h
    exact h
  refine key _ ?_
  rw [f11t_eq]
  have hl := loop11 t.length [] t (0, 0) h (Nat.le_refl _) ⟨by decide, by decide⟩
  rw [List.nil_append] at hl
  unfold refP
  cases hr : refGo t.length t (0, 0) with
  | none =>
    rw [hr] at hl
    obtain ⟨p, hl⟩ := hl
    exact aF (loS_no (o1 := out11 (.dat (.str (ba t)))) hl out11_no) (gStep (loS_eq (out := out11r (.dat (.str (ba t)))) out11r_inj hl) rfl)
  | some x =>
    rw [hr] at hl
    have hf := refGo_fit _ _ _ _ ⟨by decide, by decide⟩ hr
    refine aT (loS_yes (o1 := out11 (.dat (.str (ba t)))) out11_inj hl) (gStep (loS_eq (out := out11 (.dat (.str (ba t)))) out11_inj hl) (gStep (fnS_eq (out := oS []) oS_inj (p17 hf [])) ?_))
    simp only
    by_cases h2 : textB x = t
    · rw [if_pos h2]
      exact aF (by rw [same_ba]; simp [h2]) rfl
    · rw [if_neg h2]
      exact aT (by rw [same_ba]; simp [h2]) rfl
end Go.Eng
end

/- Sets of runs: RunsParse's law, as a tree. -/
section
namespace Go.Eng
open Go
set_option maxRecDepth 100000

noncomputable def P10 := pureS R10
noncomputable def P11 := pureS R11
noncomputable def t4 : TOrc := tCons 6 (fun a G => tspec (oT G) (P6 a G)) (tCons 10 (fun a G => tspec (oW G) (P10 a G)) (tCons 11 (fun a G => tspec (oW G) (P11 a G)) (tCons 12 (fun a G => tspec (oS G) (P12 a G)) tNone)))
noncomputable def f4t (s : ByteArray) : Tr (AV × List Ent) := tfn TT t4 noLo Go.Proofs.Tryd.f4 [.dat (.str s)] []
noncomputable def R4 (a : List AV) (G : List Ent) : Option (AV × List Ent) := (tfn TT t4 noLo Go.Proofs.Tryd.f4 a G).run
end Go.Eng
end

/- Sets of runs: RunsParse's law answers true. -/
section
namespace Go.Eng
open Go
set_option maxRecDepth 100000
set_option linter.unusedSimpArgs false

theorem f4t_eq (s : ByteArray) : (f4t s).ev =
  (rAsk (decide ((((ByteArray.size s) : Nat) : Int) > (1000 : Int)))
   (rGet (fnS (fun (x : Unit) => ((AV.dat (D.bool true)), [])) (P6 [] [])) fun _ =>
    (some ((AV.dat (D.bool true)), []))
   )
   (rGet (fnS (fun (p : (Int × Int) × Int) => ((AV.tup [(AV.agg [(AV.dat (D.int IntKind.u64 p.1.1)), (AV.dat (D.int IntKind.u64 p.1.2))]), (AV.dat (D.int IntKind.i64 p.2))]), [])) (P10 [(AV.dat (D.str s))] [])) fun x2 =>
    (rGet (fnS (fun (p : (Int × Int) × Int) => ((AV.tup [(AV.agg [(AV.dat (D.int IntKind.u64 p.1.1)), (AV.dat (D.int IntKind.u64 p.1.2))]), (AV.dat (D.int IntKind.i64 p.2))]), [])) (P11 [(AV.dat (D.str s))] [])) fun x3 =>
     (rAsk ((x2.1.1 == x3.1.1) && ((x2.1.2 == x3.1.2) && true))
      (rAsk (x2.2 == x3.2)
       (rAsk (x3.2 != (0 : Int))
        (rGet (fnS (fun (x : Unit) => ((AV.dat (D.bool true)), [])) (P6 [] [])) fun _ =>
         (some ((AV.dat (D.bool true)), []))
        )
        (rGet (fnS (fun (zs : ByteArray) => ((AV.dat (D.str zs)), [])) (P12 [(AV.agg [(AV.dat (D.int IntKind.u64 x2.1.1)), (AV.dat (D.int IntKind.u64 x2.1.2))])] [])) fun x5 =>
         (rAsk ((ByteArray.toList x5) == (ByteArray.toList s))
          (rGet (fnS (fun (x : Unit) => ((AV.dat (D.bool true)), [])) (P6 [] [])) fun _ =>
           (some ((AV.dat (D.bool true)), []))
          )
          (some ((AV.dat (D.bool false)), []))
         )
        )
       )
       (some ((AV.dat (D.bool false)), []))
      )
      (some ((AV.dat (D.bool false)), []))
     )
    )
   )
  )
  := by kernel_rfl
theorem p10 {t : List UInt8} (h : t.length ≤ 1000) (G : List Ent) : P10 [.dat (.str (ba t))] G = some (oW G (pOf (progP t))) := by
  unfold P10
  exact pureS_eq rfl (f10_run (by omega)) rfl
theorem p11 {t : List UInt8} (h : t.length ≤ 1000) (G : List Ent) : P11 [.dat (.str (ba t))] G = some (oW G (pOf (refP t))) := by
  unfold P11
  exact pureS_eq rfl (f11_run h) rfl
/-! ### contracts -/
theorem lo25_ok : ∀ c, Go.Proofs.Tryd.f25.body = some c → LoOk2 TT tNone.runs (HSr 25) lo25 c := lo_one (lp := lp25) (by kernel_rfl) fun st r h => by
  rw [show firstRegion lp25 = 2 from by kernel_rfl] at h
  exact tlo_ok h
theorem c25 : COk PP 25 R25 := tok_fn (H := HSr 25) TT_ok TOk.nil Go.Proofs.Tryd.func25 (by kernel_rfl) lo25_ok
theorem t16_ok : TOk PP t16 := TOk.cons (COk.spec (out := fun _ G => oB G) (E_ok 29).pure) TOk.nil
theorem lo16_ok : ∀ c, Go.Proofs.Tryd.f16.body = some c → LoOk2 TT t16.runs (HSr 16) lo16 c := lo_one (lp := lp16) (by kernel_rfl) fun st r h => by
  rw [show firstRegion lp16 = 3 from by kernel_rfl] at h
  exact tlo2_ok h
theorem c16 : COk PP 16 R16 := tok_fn (H := HSr 16) TT_ok t16_ok Go.Proofs.Tryd.func16 (by kernel_rfl) lo16_ok
theorem t17_ok : TOk PP t17 := TOk.cons (COk.spec2 (o1 := fun _ G => oNl G) (o2 := fun _ G => oOw G) c16.pure) (TOk.cons (COk.spec (out := fun _ G => oS G) (E_ok 30).pure) TOk.nil)
theorem lo17_ok : ∀ c, Go.Proofs.Tryd.f17.body = some c → LoOk2 TT t17.runs (HSr 17) lo17 c := lo_one (lp := lp17) (by kernel_rfl) fun st r h => by
  rw [show firstRegion lp17 = 4 from by kernel_rfl] at h
  exact tlo_ok h
theorem c17 : COk PP 17 R17 := tok_fn (H := HSr 17) TT_ok t17_ok Go.Proofs.Tryd.func17 (by kernel_rfl) lo17_ok
theorem t11_ok : TOk PP t11 := TOk.cons (COk.spec (out := fun _ G => oN2 G) c25.pure) (TOk.cons (COk.spec (out := fun _ G => oW G) c22.pure) (TOk.cons (COk.spec (out := fun _ G => oS G) c17.pure) TOk.nil))
theorem lo11_ok : ∀ c, Go.Proofs.Tryd.f11.body = some c → LoOk2 TT t11.runs (HSr 11) lo11 c := lo_one (lp := lp11) (by kernel_rfl) fun st r h => by
  rw [show firstRegion lp11 = 3 from by kernel_rfl] at h
  exact tlo2_ok h
theorem c11 : COk PP 11 R11 := tok_fn (H := HSr 11) TT_ok t11_ok Go.Proofs.Tryd.func11 (by kernel_rfl) lo11_ok
theorem t4_ok : TOk PP t4 := TOk.cons (COk.spec (out := fun _ G => oT G) (E_ok 6).pure) (TOk.cons (COk.spec (out := fun _ G => oW G) c10.pure) (TOk.cons (COk.spec (out := fun _ G => oW G) c11.pure) (TOk.cons (COk.spec (out := fun _ G => oS G) c12.pure) TOk.nil)))
theorem c4 : COk PP 4 R4 := tok_fn (H := fun _ => []) TT_ok t4_ok Go.Proofs.Tryd.func4 (by kernel_rfl) fun _ _ => LoOk2.no _
attribute [local irreducible] P6 P10 P11 P12
theorem f4_run (s : ByteArray) : R4 [.dat (.str s)] [] = some (.dat (.bool true), []) := by
  have key : ∀ o, (f4t s).ev = o → R4 [.dat (.str s)] [] = o := fun o h => by
    rw [Tr.ev_run] at h
    exact h
  refine key _ ?_
  have hs := ba_of s
  generalize s.data.toList = t at hs
  subst hs
  rw [f4t_eq, ba_sz]
  have e6 := fnS_eq (out := oT []) oT_inj (p6 (G := []))
  by_cases h : t.length > 1000
  · exact aT (by rw [decide_eq_true_eq]; omega) (gStep e6 rfl)
  refine aF (by rw [decide_eq_false_iff_not]; omega) ?_
  have e10 := fnS_eq (out := oW []) oW_inj' (p10 (t := t) (by omega) [])
  have e11 := fnS_eq (out := oW []) oW_inj' (p11 (t := t) (by omega) [])
  rw [← parse_eq] at e11
  refine gStep e10 (gStep e11 (aT (by simp) (aT (by simp) ?_)))
  cases hp : progP t with
  | none => exact aT rfl (gStep e6 rfl)
  | some x =>
    have hx := progP_fit hp
    have ht := progP_text hp
    refine aF rfl (gStep (fnS_eq (out := oS []) oS_inj (p12 hx [])) (aT ?_ (gStep e6 rfl)))
    rw [same_ba, ht]
    simp
end Go.Eng
end

/- Sets of runs: the range over runs for the program's Of and Longest, as trees. -/
section
namespace Go.Eng
open Go
set_option maxRecDepth 100000

def HSu (f : Nat) : Nat → List Nat := match f with
  | 13 => hOfS [(3000000, [10040003, 10040006])]
  | 18 => hOfS [(3000000, [10040003, 10040006])]
  | 15 => hOfS [(3, [0, 3, 4]), (1000003, [3])]
  | 14 => hOfS [(4, [0, 1, 5]), (1000004, [])]
  | 19 => hOfS [(4, [2, 3, 4, 5]), (1000004, [2, 3])]
  | _ => fun _ => []
/-! ### Of -/
noncomputable def asg13 : Code := ((rfOf (codeOf Go.Proofs.Tryd.f13)).getD (.skip, .skip)).1
noncomputable def bd13 : Code := ((rfOf (codeOf Go.Proofs.Tryd.f13)).getD (.skip, .skip)).2
noncomputable def lr13 (s : LS) : Ent := .lrec s (mkT 0 13 [(3, .ptr (.glob 1) 0), (6, .fn 37 [.ptr (.glob 0) 0])]) [7] asg13 bd13
noncomputable def G13 (a b : Int) (c1 : AV) : List Ent := [.obj [.dat (.int .u64 a), .dat (.int .u64 b)], .obj [c1], lr13 .ready]
noncomputable def y13 (a : List AV) (G : List Ent) : Tr (AV × List Ent) := tyld TT tNone (fun _ => noLo) [] 2 a G
noncomputable def Y13 (a : List AV) (G : List Ent) : Option (AV × List Ent) := (y13 a G).run
noncomputable def yn13 (a b m n : Int) : Tr (AV × List Ent) := y13 [.agg [jn m, jn n]] (G13 a b (.dat (.list .nil 0 [])))
noncomputable def yr13 (a b : Int) (l : Row) (m n : Int) : Tr (AV × List Ent) := y13 [.agg [jn m, jn n]] (G13 a b (.rowc .excl 2 l))
def oYo (G : List Ent) (l : Row) : AV × List Ent := (.dat (.bool true), G.set 1 (.obj [.rowc .excl 2 l]))
noncomputable def t37o : TOrc := tCons 38 (fun a G => tspec2 (oNlI G) (oOwI G) (P38 a G)) (tCons (yB + 2) (fun a G => tspec (oYo G) (Y13 a G)) tNone)
noncomputable def inv37o (c1 : AV) (a b m n : Int) (l : Row) (i : Int) : St := ⟨mkT 0 49 [(0, .yld 2), (3, .ptr (.loc 0) 0), (7, .sh false 1 1 0 l.length), (8, jn (l.length : Nat)), (9, jn i)], ⟨[some (.obj [jn m, jn n]), some (.row .excl 1 l)], G13 a b c1, 0⟩⟩
noncomputable def rk37on (a b m n : Int) (l : Row) (i : Int) : Tr (Ex × St) := tround TT t37o noLo (HSt 37) lp37 (inv37o (.dat (.list .nil 0 [])) a b m n l i)
noncomputable def rk37or (r : Row) (a b m n : Int) (l : Row) (i : Int) : Tr (Ex × St) := tround TT t37o noLo (HSt 37) lp37 (inv37o (.rowc .excl 2 r) a b m n l i)
noncomputable def out37o (c1 : AV) (a b : Int) (r : Int × Int) : Ex × St := (.exit 0, ⟨mkT 0 49 [(0, .yld 2), (3, .ptr (.loc 0) 0)], ⟨[some (.obj [jn r.1, jn r.2])], G13 a b c1, 0⟩⟩)
noncomputable def out37op (a b : Int) (p : AV × Int × Int) : Ex × St := out37o p.1 a b p.2
noncomputable def lo37o (n : Nat) (st : St) : Tr (Ex × St) := match n with
  | 2 => tlo TT t37o.runs (HSt 37) lp37 (out37op (argAB st.mem.G).1 (argAB st.mem.G).2) st
  | _ => .fail
noncomputable def f37ot (a b : Int) : Tr (AV × List Ent) := tfn TT t37o lo37o Go.Proofs.Tryd.f37 [.yld 2, .ptr (.glob 0) 0] (G13 a b (.dat (.list .nil 0 [])))
noncomputable def rk37oz (a b : Int) : Tr (Ex × St) := tround TT t37o noLo (HSt 37) lp37 ⟨mkT 0 49 [(0, .yld 2), (3, .ptr (.loc 0) 0), (7, .dat (.list .nil 0 [])), (8, jn 0), (9, jn 0)], ⟨[some (.obj [jn 0, jn 0])], G13 a b (.dat (.list .nil 0 [])), 0⟩⟩
noncomputable def R37o (a : List AV) (G : List Ent) : Option (AV × List Ent) := (tfn TT t37o lo37o Go.Proofs.Tryd.f37 a G).run
def o37on (G : List Ent) (_ : Unit) : AV × List Ent := (.tup [], G.set 1 (.obj [.dat (.list .nil 0 [])]))
def o37or (G : List Ent) (l : Row) : AV × List Ent := (.tup [], G.set 1 (.obj [.rowc .excl 2 l]))
noncomputable def t13 : TOrc := tCons 37 (fun a G => tspec2 (o37on G) (o37or G) (R37o a G)) (tCons 26 (fun a G => t1 26 a G) tNone)
noncomputable def f13t (a b : Int) : Tr (AV × List Ent) := tfnR TT t13 noLo (HSu 13 3000000) Go.Proofs.Tryd.f13 [st2 a b] []
noncomputable def R13 (a : List AV) (G : List Ent) : Option (AV × List Ent) := (tfnR TT t13 noLo (HSu 13 3000000) Go.Proofs.Tryd.f13 a G).run
noncomputable def P13 := pureS R13
/-! ### Longest -/
noncomputable def asg18 : Code := ((rfOf (codeOf Go.Proofs.Tryd.f18)).getD (.skip, .skip)).1
noncomputable def bd18 : Code := ((rfOf (codeOf Go.Proofs.Tryd.f18)).getD (.skip, .skip)).2
noncomputable def lr18 (s : LS) : Ent := .lrec s (mkT 0 15 [(3, .ptr (.glob 1) 0), (6, .fn 37 [.ptr (.glob 0) 0])]) [7] asg18 bd18
noncomputable def G18 (a b c d : Int) : List Ent := [.obj [.dat (.int .u64 a), .dat (.int .u64 b)], .obj [jn c, jn d], lr18 .ready]
noncomputable def y18 (a : List AV) (G : List Ent) : Tr (AV × List Ent) := tyld TT tNone (fun _ => noLo) [] 2 a G
noncomputable def Y18 (a : List AV) (G : List Ent) : Option (AV × List Ent) := (y18 a G).run
noncomputable def ym18 (a b c d m n : Int) : Tr (AV × List Ent) := y18 [.agg [jn m, jn n]] (G18 a b c d)
def oYg (G : List Ent) (p : Int × Int) : AV × List Ent := (.dat (.bool true), G.set 1 (.obj [jn p.1, jn p.2]))
noncomputable def t37g : TOrc := tCons 38 (fun a G => tspec2 (oNlI G) (oOwI G) (P38 a G)) (tCons (yB + 2) (fun a G => tspec (oYg G) (Y18 a G)) tNone)
noncomputable def inv37g (a b c d m n : Int) (l : Row) (i : Int) : St := ⟨mkT 0 49 [(0, .yld 2), (3, .ptr (.loc 0) 0), (7, .sh false 1 1 0 l.length), (8, jn (l.length : Nat)), (9, jn i)], ⟨[some (.obj [jn m, jn n]), some (.row .excl 1 l)], G18 a b c d, 0⟩⟩
noncomputable def rk37g (a b c d m n : Int) (l : Row) (i : Int) : Tr (Ex × St) := tround TT t37g noLo (HSt 37) lp37 (inv37g a b c d m n l i)
noncomputable def out37g (a b : Int) (p : (Int × Int) × (Int × Int)) : Ex × St := (.exit 0, ⟨mkT 0 49 [(0, .yld 2), (3, .ptr (.loc 0) 0)], ⟨[some (.obj [jn p.2.1, jn p.2.2])], G18 a b p.1.1 p.1.2, 0⟩⟩)
noncomputable def lo37g (n : Nat) (st : St) : Tr (Ex × St) := match n with
  | 2 => tlo TT t37g.runs (HSt 37) lp37 (out37g (argAB st.mem.G).1 (argAB st.mem.G).2) st
  | _ => .fail
noncomputable def f37gt (a b : Int) : Tr (AV × List Ent) := tfn TT t37g lo37g Go.Proofs.Tryd.f37 [.yld 2, .ptr (.glob 0) 0] (G18 a b 0 0)
noncomputable def rk37gz (a b : Int) : Tr (Ex × St) := tround TT t37g noLo (HSt 37) lp37 ⟨mkT 0 49 [(0, .yld 2), (3, .ptr (.loc 0) 0), (7, .dat (.list .nil 0 [])), (8, jn 0), (9, jn 0)], ⟨[some (.obj [jn 0, jn 0])], G18 a b 0 0, 0⟩⟩
noncomputable def R37g (a : List AV) (G : List Ent) : Option (AV × List Ent) := (tfn TT t37g lo37g Go.Proofs.Tryd.f37 a G).run
def o37g (G : List Ent) (p : Int × Int) : AV × List Ent := (.tup [], G.set 1 (.obj [jn p.1, jn p.2]))
noncomputable def t18 : TOrc := tCons 37 (fun a G => tspec (o37g G) (R37g a G)) (tCons 26 (fun a G => t1 26 a G) tNone)
noncomputable def f18t (a b : Int) : Tr (AV × List Ent) := tfnR TT t18 noLo (HSu 18 3000000) Go.Proofs.Tryd.f18 [st2 a b] []
noncomputable def R18 (a : List AV) (G : List Ent) : Option (AV × List Ent) := (tfnR TT t18 noLo (HSu 18 3000000) Go.Proofs.Tryd.f18 a G).run
noncomputable def P18 := pureS R18
def oR2 (G : List Ent) (p : Int × Int) : AV × List Ent := (.agg [jn p.1, jn p.2], G)
end Go.Eng
end

/- Sets of runs: taken, Runs and the document's Longest, as trees. -/
section
namespace Go.Eng
open Go
set_option maxRecDepth 100000

/-! ### taken -/
noncomputable def lp15 : Code := lpOf (codeOf Go.Proofs.Tryd.f15) 0
noncomputable def rk15n (k : LK) (l : Row) (i : Int) : Tr (Ex × St) := tround TT tNone noLo (HSu 15) lp15 (inv8n k l i)
noncomputable def rk15r (k : LK) (l r : Row) (i : Int) : Tr (Ex × St) := tround TT tNone noLo (HSu 15) lp15 (inv8r k l r i)
noncomputable def lo15 (n : Nat) (st : St) : Tr (Ex × St) := match n with
  | 3 => tlo2 TT tNone.runs (HSu 15) lp15 out8n out8r st
  | _ => .fail
noncomputable def f15t (k : LK) (l : Row) : Tr (AV × List Ent) := tfn TT tNone lo15 Go.Proofs.Tryd.f15 [.dat (.list k 2 l)] []
noncomputable def R15 (a : List AV) (G : List Ent) : Option (AV × List Ent) := (tfn TT tNone lo15 Go.Proofs.Tryd.f15 a G).run
noncomputable def P15 := pureS R15
noncomputable def f15z : Tr (AV × List Ent) := tfn TT tNone lo15 Go.Proofs.Tryd.f15 [.dat (.list .nil 0 [])] []
noncomputable def rk15z : Tr (Ex × St) := tround TT tNone noLo (HSu 15) lp15 ⟨mkT 0 26 [(0, .dat (.list .nil 0 [])), (3, .dat (.list .nil 0 [])), (4, jn 0)], ⟨[], [], 0⟩⟩
/-! ### Runs -/
noncomputable def lp14 : Code := lpOf (codeOf Go.Proofs.Tryd.f14) 0
def inv14 (l r : Row) (i : Int) : St := ⟨mkT 0 26 [(0, .dat (.list .any 2 l)), (1, .dat (.list .any 2 r)), (5, jn i)], ⟨[], [], 0⟩⟩
noncomputable def rk14 (l r : Row) (i : Int) : Tr (Ex × St) := tround TT tNone noLo (HSu 14) lp14 (inv14 l r i)
def out14 (_ : Unit) : Ex × St := (.exit 0, ⟨mkT 0 26 [], ⟨[], [], 0⟩⟩)
noncomputable def lo14 (n : Nat) (st : St) : Tr (Ex × St) := match n with
  | 4 => tlo TT tNone.runs (HSu 14) lp14 out14 st
  | _ => .fail
noncomputable def f14t (l r : Row) : Tr (AV × List Ent) := tfn TT tNone lo14 Go.Proofs.Tryd.f14 [.dat (.list .any 2 l), .dat (.list .any 2 r)] []
noncomputable def R14 (a : List AV) (G : List Ent) : Option (AV × List Ent) := (tfn TT tNone lo14 Go.Proofs.Tryd.f14 a G).run
noncomputable def P14 := pureS R14
noncomputable def f14z : Tr (AV × List Ent) := tfn TT tNone lo14 Go.Proofs.Tryd.f14 [.dat (.list .nil 0 []), .dat (.list .nil 0 [])] []
noncomputable def rk14z : Tr (Ex × St) := tround TT tNone noLo (HSu 14) lp14 ⟨mkT 0 26 [(0, .dat (.list .nil 0 [])), (1, .dat (.list .nil 0 [])), (5, jn 0)], ⟨[], [], 0⟩⟩
/-! ### Longest, the document's -/
noncomputable def t19 : TOrc := tCons 16 (fun a G => tspec2 (oNl G) (oOw G) (P16 a G)) tNone
noncomputable def lp19 : Code := lpOf (codeOf Go.Proofs.Tryd.f19) 0
noncomputable def f19p (op : St → Option (Ex × St)) (a b : Int) : Tr (AV × List Ent) := tfn TT t19 (fun n st => .get (op (tidy (HSu 19 n) st)) fun x => .ret x) Go.Proofs.Tryd.f19 [st2 a b] []
end Go.Eng
end

/- Sets of runs: taken, and Runs, the document's comparison. -/
section
namespace Go.Eng
open Go
set_option maxRecDepth 100000
set_option linter.unusedSimpArgs false

theorem rk15n_eq (k : LK) (l : Row) (i : Int) : (rk15n k l i).ev =
  (rAsk (decide (i < (((List.length l) : Nat) : Int)))
   (rAsk (true && ((decide ((0 : Int) ≤ i)) && (decide (i < (((List.length l) : Nat) : Int)))))
    (rGet l[(Int.toNat i)]? fun x1 =>
     (rGet (List.head? (List.drop 0 x1)) fun x2 =>
      (rAsk (true && ((decide ((0 : Int) ≤ i)) && (decide (i < (((List.length l) : Nat) : Int)))))
       (rGet l[(Int.toNat i)]? fun x3 =>
        (rGet (List.head? (List.drop 1 x3)) fun x4 =>
         (some (Ex.norm, (St.mk (mkT 0 26 [(0, (AV.dat (D.list k 2 l))), (3, (AV.sh false 0 2 0 1)), (4, (AV.dat (D.int IntKind.i64 (IntKind.wrap IntKind.i64 (i + (1 : Int))))))]) (Mem.mk [(Option.some (Ent.row Mode.excl 2 [[x2, x4]]))] [] 0))))
        )
       )
       none
      )
     )
    )
    none
   )
   (some ((Ex.exit 0), (St.mk (mkT 0 26 [(3, (AV.dat (D.list LK.nil 0 ([] : Row))))]) (Mem.mk [] [] 0))))
  )
  := by kernel_rfl
theorem rk15r_eq (k : LK) (l r : Row) (i : Int) : (rk15r k l r i).ev =
  (rAsk (decide (i < (((List.length l) : Nat) : Int)))
   (rAsk (true && ((decide ((0 : Int) ≤ i)) && (decide (i < (((List.length l) : Nat) : Int)))))
    (rGet l[(Int.toNat i)]? fun x1 =>
     (rGet (List.head? (List.drop 0 x1)) fun x2 =>
      (rAsk (true && ((decide ((0 : Int) ≤ i)) && (decide (i < (((List.length l) : Nat) : Int)))))
       (rGet l[(Int.toNat i)]? fun x3 =>
        (rGet (List.head? (List.drop 1 x3)) fun x4 =>
         (rAsk ((decide ((0 + (List.length r)) ≤ (List.length r))) && (fits (TI.mk (TK.struct [(0, 3), (1, 3)]) 2 16 [(AV.dat (D.int IntKind.i64 (0 : Int))), (AV.dat (D.int IntKind.i64 (0 : Int)))] true) ((List.length r) + 1)))
          (rAsk (true && (decide ((List.length r) = (List.length r))))
           (some (Ex.norm, (St.mk (mkT 0 26 [(0, (AV.dat (D.list k 2 l))), (3, (AV.sh false 0 2 0 ((List.length r) + 1))), (4, (AV.dat (D.int IntKind.i64 (IntKind.wrap IntKind.i64 (i + (1 : Int))))))]) (Mem.mk [(Option.some (Ent.row Mode.excl 2 (r ++ [[x2, x4]])))] [] 0))))
           none
          )
          none
         )
        )
       )
       none
      )
     )
    )
    none
   )
   (some ((Ex.exit 0), (St.mk (mkT 0 26 [(3, (AV.sh false 0 2 0 (List.length r)))]) (Mem.mk [(Option.some (Ent.row Mode.excl 2 r))] [] 0))))
  )
  := by kernel_rfl
theorem f15t_eq (k : LK) (l : Row) : (f15t k l).ev =
  (rAsk (Option.isSome (loS TT (TOrc.runs tNone) (HSu 15) lp15 out8n (St.mk (mkT 0 26 [(0, (AV.dat (D.list k 2 l))), (3, (AV.dat (D.list LK.nil 0 ([] : Row)))), (4, (AV.dat (D.int IntKind.i64 (0 : Int))))]) (Mem.mk [] [] 0))))
   (rGet (loS TT (TOrc.runs tNone) (HSu 15) lp15 out8n (St.mk (mkT 0 26 [(0, (AV.dat (D.list k 2 l))), (3, (AV.dat (D.list LK.nil 0 ([] : Row)))), (4, (AV.dat (D.int IntKind.i64 (0 : Int))))]) (Mem.mk [] [] 0))) fun _ =>
    (some ((AV.dat (D.list LK.nil 0 ([] : Row))), []))
   )
   (rGet (loS TT (TOrc.runs tNone) (HSu 15) lp15 out8r (St.mk (mkT 0 26 [(0, (AV.dat (D.list k 2 l))), (3, (AV.dat (D.list LK.nil 0 ([] : Row)))), (4, (AV.dat (D.int IntKind.i64 (0 : Int))))]) (Mem.mk [] [] 0))) fun x2 =>
    (rAsk (wholeB false 0 (List.length x2) (List.length x2))
     (some ((AV.own true 2 x2), []))
     (some ((AV.dat (D.list LK.any 2 (List.take (List.length x2) (List.drop 0 x2)))), []))
    )
   )
  )
  := by kernel_rfl
theorem f15z_eq : f15z.ev =
  (rAsk (Option.isSome (loS TT (TOrc.runs tNone) (HSu 15) lp15 out8n (St.mk (mkT 0 26 [(0, (AV.dat (D.list LK.nil 0 ([] : Row)))), (3, (AV.dat (D.list LK.nil 0 ([] : Row)))), (4, (AV.dat (D.int IntKind.i64 (0 : Int))))]) (Mem.mk [] [] 0))))
   (rGet (loS TT (TOrc.runs tNone) (HSu 15) lp15 out8n (St.mk (mkT 0 26 [(0, (AV.dat (D.list LK.nil 0 ([] : Row)))), (3, (AV.dat (D.list LK.nil 0 ([] : Row)))), (4, (AV.dat (D.int IntKind.i64 (0 : Int))))]) (Mem.mk [] [] 0))) fun _ =>
    (some ((AV.dat (D.list LK.nil 0 ([] : Row))), []))
   )
   (rGet (loS TT (TOrc.runs tNone) (HSu 15) lp15 out8r (St.mk (mkT 0 26 [(0, (AV.dat (D.list LK.nil 0 ([] : Row)))), (3, (AV.dat (D.list LK.nil 0 ([] : Row)))), (4, (AV.dat (D.int IntKind.i64 (0 : Int))))]) (Mem.mk [] [] 0))) fun x2 =>
    (rAsk (wholeB false 0 (List.length x2) (List.length x2))
     (some ((AV.own true 2 x2), []))
     (some ((AV.dat (D.list LK.any 2 (List.take (List.length x2) (List.drop 0 x2)))), []))
    )
   )
  )
  := by kernel_rfl
theorem rk15z_eq : rk15z.ev =
  (some ((Ex.exit 0), (St.mk (mkT 0 26 [(3, (AV.dat (D.list LK.nil 0 ([] : Row))))]) (Mem.mk [] [] 0))))
  := by kernel_rfl
theorem rk14_eq (l r : Row) (i : Int) : (rk14 l r i).ev =
  (rAsk (decide (i < (((List.length l) : Nat) : Int)))
   (rAsk (true && ((decide ((0 : Int) ≤ i)) && (decide (i < (((List.length l) : Nat) : Int)))))
    (rGet l[(Int.toNat i)]? fun x1 =>
     (rGet (List.head? (List.drop 0 x1)) fun x2 =>
      (rGet (List.head? (List.tail (List.drop 0 x1))) fun x3 =>
       (rAsk (true && ((decide ((0 : Int) ≤ i)) && (decide (i < (((List.length r) : Nat) : Int)))))
        (rGet r[(Int.toNat i)]? fun x4 =>
         (rGet (List.head? (List.drop 0 x4)) fun x5 =>
          (rGet (List.head? (List.tail (List.drop 0 x4))) fun x6 =>
           (rGet (D.int? IntKind.i64 x2) fun x7 =>
            (rGet (D.int? IntKind.i64 x5) fun x8 =>
             (rGet (D.int? IntKind.i64 x3) fun x9 =>
              (rGet (D.int? IntKind.i64 x6) fun x10 =>
               (rAsk (!((x7 == x8) && ((x9 == x10) && true)))
                (some (Ex.ret, (St.mk (mkT 0 26 []) (Mem.mk [] [] 0))))
                (some (Ex.norm, (St.mk (mkT 0 26 [(0, (AV.dat (D.list LK.any 2 l))), (1, (AV.dat (D.list LK.any 2 r))), (5, (AV.dat (D.int IntKind.i64 (IntKind.wrap IntKind.i64 (i + (1 : Int))))))]) (Mem.mk [] [] 0))))
               )
              )
             )
            )
           )
          )
         )
        )
        none
       )
      )
     )
    )
    none
   )
   (some ((Ex.exit 0), (St.mk (mkT 0 26 []) (Mem.mk [] [] 0))))
  )
  := by kernel_rfl
theorem f14t_eq (l r : Row) : (f14t l r).ev =
  (rAsk ((((List.length l) : Nat) : Int) != (((List.length r) : Nat) : Int))
   (some ((AV.dat (D.bool false)), []))
   (rGet (loS TT (TOrc.runs tNone) (HSu 14) lp14 out14 (St.mk (mkT 0 26 [(0, (AV.dat (D.list LK.any 2 l))), (1, (AV.dat (D.list LK.any 2 r))), (5, (AV.dat (D.int IntKind.i64 (0 : Int))))]) (Mem.mk [] [] 0))) fun _ =>
    (some ((AV.dat (D.bool true)), []))
   )
  )
  := by kernel_rfl
theorem f14z_eq : f14z.ev =
  (rGet (loS TT (TOrc.runs tNone) (HSu 14) lp14 out14 (St.mk (mkT 0 26 [(0, (AV.dat (D.list LK.nil 0 ([] : Row)))), (1, (AV.dat (D.list LK.nil 0 ([] : Row)))), (5, (AV.dat (D.int IntKind.i64 (0 : Int))))]) (Mem.mk [] [] 0))) fun _ =>
   (some ((AV.dat (D.bool true)), []))
  )
  := by kernel_rfl
theorem rk14z_eq : rk14z.ev =
  (some ((Ex.exit 0), (St.mk (mkT 0 26 []) (Mem.mk [] [] 0))))
  := by kernel_rfl
attribute [local irreducible] fnS loS tround
theorem go15n {k : LK} {l : Row} {i : Int} {o} (h : (rk15n k l i).ev = o) : (tround TT tNone noLo (HSu 15) lp15 (inv8n k l i)).run = o := by
  rw [Tr.ev_run] at h
  exact h
theorem go15r {k : LK} {l r : Row} {i : Int} {o} (h : (rk15r k l r i).ev = o) : (tround TT tNone noLo (HSu 15) lp15 (inv8r k l r i)).run = o := by
  rw [Tr.ev_run] at h
  exact h
theorem loop15r {k : LK} : ∀ (ps pre : List (Int × Int)), (pre ++ ps).length ≤ 1000 →
    LoopTo TT tNone.runs (HSu 15) lp15 (inv8r k (rowR (pre ++ ps)) (rowR pre) pre.length) (out8r (rowR (pre ++ ps)))
  | [], pre, _ => by
    rw [List.append_nil]
    refine LoopTo.last (orc := tNone) (lo := noLo) (fun _ _ _ _ h => h) (LoOk2.no _) (go15r ?_) (by simp [out8r])
    rw [rk15r_eq]
    exact aF (by rw [decide_eq_false_iff_not, rowR_len]; omega) rfl
  | (m, c) :: ps, pre, h => by
    have hlen : (rowR (pre ++ (m, c) :: ps)).length = pre.length + ps.length + 1 := by
      rw [rowR_len, List.length_append, List.length_cons]; omega
    rw [List.length_append, List.length_cons] at h
    have hb : (true && ((decide ((0 : Int) ≤ ((pre.length : Nat) : Int))) && (decide (((pre.length : Nat) : Int) < (((rowR (pre ++ (m, c) :: ps)).length : Nat) : Int))))) = true := by
      rw [Bool.true_and, Bool.and_eq_true, decide_eq_true_eq, decide_eq_true_eq]
      omega
    have step : (tround TT tNone noLo (HSu 15) lp15 (inv8r k (rowR (pre ++ (m, c) :: ps)) (rowR pre) pre.length)).run = some (.norm, inv8r k (rowR (pre ++ (m, c) :: ps)) (rowR (pre ++ [(m, c)])) ((pre.length + 1 : Nat) : Int)) := by
      refine go15r ?_
      rw [rk15r_eq, w64 (n := pre.length + 1) (by omega) (x := ((pre.length : Nat) : Int) + 1) (by omega)]
      refine aT (by rw [decide_eq_true_eq]; omega) (aT hb (gStep (rowR_at pre m c ps) (gStep rfl (aT hb (gStep (rowR_at pre m c ps) (gStep rfl (aT ?_ (aT (by simp) ?_))))))))
      · rw [Bool.and_eq_true, decide_eq_true_eq, fits_iff, rowR_len]
        omega
      · have e : rowR (pre ++ [(m, c)]) = rowR pre ++ [[.int .i64 m, .int .i64 c]] := by simp [rowR]
        rw [inv8r, e, List.length_append]
        rfl
    have ih := loop15r (k := k) ps (pre ++ [(m, c)]) (by simp only [List.length_append, List.length_cons, List.length_nil]; omega)
    rw [show pre ++ [(m, c)] ++ ps = pre ++ (m, c) :: ps by simp, show List.length (pre ++ [(m, c)]) = pre.length + 1 by simp] at ih
    exact LoopTo.more (orc := tNone) (lo := noLo) (fun _ _ _ _ h => h) (LoOk2.no _) step ih
theorem key15 {k : LK} {l : Row} {o} (h : (f15t k l).ev = o) : R15 [.dat (.list k 2 l)] [] = o := by
  rw [Tr.ev_run] at h
  exact h
theorem f15_run {k : LK} {p : Int × Int} {ps : List (Int × Int)} (h : ps.length + 1 ≤ 1000) : R15 [.dat (.list k 2 (rowR (p :: ps)))] [] = some (oOw [] (rowR (p :: ps))) := by
  obtain ⟨m, c⟩ := p
  refine key15 ?_
  rw [f15t_eq]
  have hl : LoopTo TT tNone.runs (HSu 15) lp15 (inv8n k (rowR ((m, c) :: ps)) 0) (out8r (rowR ((m, c) :: ps))) := by
    have hb : (true && ((decide ((0 : Int) ≤ 0)) && (decide ((0 : Int) < (((rowR ((m, c) :: ps)).length : Nat) : Int))))) = true := by
      rw [Bool.true_and, Bool.and_eq_true, decide_eq_true_eq, decide_eq_true_eq, rowR_len, List.length_cons]
      omega
    have step : (tround TT tNone noLo (HSu 15) lp15 (inv8n k (rowR ((m, c) :: ps)) 0)).run = some (.norm, inv8r k (rowR ((m, c) :: ps)) (rowR [(m, c)]) 1) := by
      refine go15n ?_
      rw [rk15n_eq]
      have hat := rowR_at [] m c ps
      simp only [List.nil_append, List.length_nil] at hat
      refine aT (by rw [decide_eq_true_eq, rowR_len, List.length_cons]; omega) (aT hb (gStep hat (gStep rfl (aT hb (gStep hat (gStep rfl rfl))))))
    have ih := loop15r (k := k) ps [(m, c)] (by simp only [List.length_append, List.length_cons, List.length_nil]; omega)
    exact LoopTo.more (orc := tNone) (lo := noLo) (fun _ _ _ _ h => h) (LoOk2.no _) step ih
  refine aF (loS_no (o1 := out8n) hl out8_no) (gStep (loS_eq (out := out8r) out8r_inj hl) (aT ?_ rfl))
  rw [whole_iff]
  exact ⟨rfl, rfl⟩

/-! ### Set, the program's -/

theorem f15_nil : R15 [.dat (.list .nil 0 [])] [] = some (oNl [] ()) := by
  have key : ∀ o, f15z.ev = o → R15 [.dat (.list .nil 0 [])] [] = o := fun o h => by
    rw [Tr.ev_run] at h
    exact h
  refine key _ ?_
  rw [f15z_eq]
  have hl : LoopTo TT tNone.runs (HSu 15) lp15 ⟨mkT 0 26 [(0, .dat (.list .nil 0 [])), (3, .dat (.list .nil 0 [])), (4, jn 0)], ⟨[], [], 0⟩⟩ (out8n ()) := by
    refine LoopTo.last (orc := tNone) (lo := noLo) (fun _ _ _ _ h => h) (LoOk2.no _) ?_ (by simp [out8n])
    have := rk15z_eq
    rw [Tr.ev_run] at this
    exact this
  exact aT (loS_yes (o1 := out8n) out8n_inj hl) (gStep (loS_eq (out := out8n) out8n_inj hl) rfl)
/-! ### Runs -/
theorem out14_inj : ∀ x y, out14 x = out14 y → x = y := fun _ _ _ => rfl
theorem go14 {l r : Row} {i : Int} {o} (h : (rk14 l r i).ev = o) : (tround TT tNone noLo (HSu 14) lp14 (inv14 l r i)).run = o := by
  rw [Tr.ev_run] at h
  exact h
theorem loop14 : ∀ (ps pre : List (Int × Int)), (pre ++ ps).length ≤ 1000 →
    LoopTo TT tNone.runs (HSu 14) lp14 (inv14 (rowR (pre ++ ps)) (rowR (pre ++ ps)) pre.length) (out14 ())
  | [], pre, _ => by
    refine LoopTo.last (orc := tNone) (lo := noLo) (fun _ _ _ _ h => h) (LoOk2.no _) (go14 ?_) (by simp [out14])
    rw [rk14_eq]
    exact aF (by rw [decide_eq_false_iff_not, rowR_len, List.append_nil]; omega) rfl
  | (m, c) :: ps, pre, h => by
    have hlen : (rowR (pre ++ (m, c) :: ps)).length = pre.length + ps.length + 1 := by
      rw [rowR_len, List.length_append, List.length_cons]; omega
    rw [List.length_append, List.length_cons] at h
    have hb : (true && ((decide ((0 : Int) ≤ ((pre.length : Nat) : Int))) && (decide (((pre.length : Nat) : Int) < (((rowR (pre ++ (m, c) :: ps)).length : Nat) : Int))))) = true := by
      rw [Bool.true_and, Bool.and_eq_true, decide_eq_true_eq, decide_eq_true_eq]
      omega
    have hat := rowR_at pre m c ps
    have step : (tround TT tNone noLo (HSu 14) lp14 (inv14 (rowR (pre ++ (m, c) :: ps)) (rowR (pre ++ (m, c) :: ps)) pre.length)).run = some (.norm, inv14 (rowR (pre ++ (m, c) :: ps)) (rowR (pre ++ (m, c) :: ps)) ((pre.length + 1 : Nat) : Int)) := by
      refine go14 ?_
      rw [rk14_eq, w64 (n := pre.length + 1) (by omega) (x := ((pre.length : Nat) : Int) + 1) (by omega)]
      exact aT (by rw [decide_eq_true_eq]; omega) (aT hb (gStep hat (gStep rfl (gStep rfl (aT hb (gStep hat (gStep rfl (gStep rfl (gStep (x := m) rfl (gStep (x := m) rfl (gStep (x := c) rfl (gStep (x := c) rfl (aF (by simp) rfl)))))))))))))
    have ih := loop14 ps (pre ++ [(m, c)]) (by simp only [List.length_append, List.length_cons, List.length_nil]; omega)
    rw [show pre ++ [(m, c)] ++ ps = pre ++ (m, c) :: ps by simp, show List.length (pre ++ [(m, c)]) = pre.length + 1 by simp] at ih
    exact LoopTo.more (orc := tNone) (lo := noLo) (fun _ _ _ _ h => h) (LoOk2.no _) step ih
end Go.Eng
end

/- Sets of runs: the document's Longest and RunsOf's law, as trees. -/
section
namespace Go.Eng
open Go
set_option maxRecDepth 100000

def inv19 (r : Row) (c d : Int) (i : Int) : St := ⟨mkT 0 28 [(2, .ptr (.loc 0) 0), (3, .ptr (.loc 1) 0), (4, .sh false 2 2 0 r.length), (5, jn i)], ⟨[some (.obj [jn 0, jn 0]), some (.obj [jn c, jn d]), some (.row .excl 2 r)], [], 0⟩⟩
def inv19z : St := ⟨mkT 0 28 [(2, .ptr (.loc 0) 0), (3, .ptr (.loc 1) 0), (4, .dat (.list .nil 0 [])), (5, jn 0)], ⟨[some (.obj [jn 0, jn 0]), some (.obj [jn 0, jn 0])], [], 0⟩⟩
noncomputable def rk19 (r : Row) (c d : Int) (i : Int) : Tr (Ex × St) := tround TT t19 noLo (HSu 19) lp19 (inv19 r c d i)
noncomputable def rk19z : Tr (Ex × St) := tround TT t19 noLo (HSu 19) lp19 inv19z
def out19 (p : Int × Int) : Ex × St := (.exit 0, ⟨mkT 0 28 [(2, .ptr (.loc 0) 0), (3, .ptr (.loc 1) 0)], ⟨[some (.obj [jn 0, jn 0]), some (.obj [jn p.1, jn p.2])], [], 0⟩⟩)
noncomputable def lo19 (n : Nat) (st : St) : Tr (Ex × St) := match n with
  | 4 => tlo TT t19.runs (HSu 19) lp19 out19 st
  | _ => .fail
noncomputable def f19t (a b : Int) : Tr (AV × List Ent) := tfn TT t19 lo19 Go.Proofs.Tryd.f19 [st2 a b] []
noncomputable def R19 (a : List AV) (G : List Ent) : Option (AV × List Ent) := (tfn TT t19 lo19 Go.Proofs.Tryd.f19 a G).run
noncomputable def P19 := pureS R19
def oLa (G : List Ent) (zr : Row) : AV × List Ent := (.dat (.list .any 2 zr), G)
noncomputable def t5 : TOrc := tCons 6 (fun a G => tspec (oT G) (P6 a G)) (tCons 7 (fun a G => tspec (oW G) (P7p a G)) (tCons 10 (fun a G => tspec (oW G) (P10 a G)) (tCons 12 (fun a G => tspec (oS G) (P12 a G)) (tCons 13 (fun a G => tspec2 (oNl G) (oLa G) (P13 a G)) (tCons 14 (fun a G => tspec (oB G) (P14 a G)) (tCons 15 (fun a G => tspec2 (oNl G) (oOw G) (P15 a G)) (tCons 16 (fun a G => tspec2 (oNl G) (oOw G) (P16 a G)) (tCons 17 (fun a G => tspec (oS G) (P17 a G)) (tCons 18 (fun a G => tspec (oR2 G) (P18 a G)) (tCons 19 (fun a G => tspec (oR2 G) (P19 a G)) tNone))))))))))
noncomputable def f5t (a b : Int) : Tr (AV × List Ent) := tfn TT t5 noLo Go.Proofs.Tryd.f5 [st2 a b] []
noncomputable def R5 (a : List AV) (G : List Ent) : Option (AV × List Ent) := (tfn TT t5 noLo Go.Proofs.Tryd.f5 a G).run
end Go.Eng
end
