/- SectorShorts: at every input true, and the arguments read as they did; with the listed tables as the program's text lays them. -/
import Derived.Test.YtnbdibeainhnhaaDoorSs25
import Derived.Test.YtnbdibeainhnhaaDoorSs26
section
namespace Go.Eng
open Go
set_option maxRecDepth 100000
set_option linter.unusedSimpArgs false

theorem f3t_eq (s t : ByteArray) : (f3t s t).ev =
  (rAsk (decide ((((ByteArray.size s) : Nat) : Int) > (500 : Int)))
   (rGet (fnS (fun (x : Unit) => ((AV.dat (D.bool true)), [])) (P6 [] [])) fun x1 =>
    (some ((AV.dat (D.bool true)), []))
   )
   (rAsk (decide ((((ByteArray.size t) : Nat) : Int) > (500 : Int)))
    (rGet (fnS (fun (x : Unit) => ((AV.dat (D.bool true)), [])) (P6 [] [])) fun x2 =>
     (some ((AV.dat (D.bool true)), []))
    )
    (rGet (fnS (fun (zs : ByteArray) => ((AV.dat (D.str zs)), [])) (P7 [(AV.dat (D.str s))] [])) fun x3 =>
     (rGet (fnS (fun (p : ByteArray × Int) => ((AV.tup [(AV.dat (D.str p.1)), (AV.dat (D.int IntKind.i64 p.2))]), [])) (P8 [(AV.dat (D.str t))] [])) fun x4 =>
      (rGet (fnS (fun (p : ByteArray × Int) => ((AV.tup [(AV.dat (D.str p.1)), (AV.dat (D.int IntKind.i64 p.2))]), [])) (P9 [(AV.dat (D.str t))] [])) fun x5 =>
       (rGet (fnS (fun (zs : ByteArray) => ((AV.dat (D.str zs)), [])) (P10 [(AV.dat (D.str s))] [])) fun x6 =>
        (rAsk (!((ByteArray.toList x3) == (ByteArray.toList x6)))
         (some ((AV.dat (D.bool false)), []))
         (rAsk (!((ByteArray.toList x4.1) == (ByteArray.toList x5.1)))
          (some ((AV.dat (D.bool false)), []))
          (rAsk (x4.2 != x5.2)
           (some ((AV.dat (D.bool false)), []))
           (rGet (fnS (fun (p : ByteArray × Int) => ((AV.tup [(AV.dat (D.str p.1)), (AV.dat (D.int IntKind.i64 p.2))]), [])) (P8 [(AV.dat (D.str x3))] [])) fun x7 =>
            (rAsk (!((((ByteArray.size s) : Nat) : Int) == (64 : Int)))
             (rAsk (x5.2 != (0 : Int))
              (rGet (fnS (fun (x : Unit) => ((AV.dat (D.bool true)), [])) (P6 [] [])) fun x8 =>
               (some ((AV.dat (D.bool true)), []))
              )
              (rGet (fnS (fun (zs : ByteArray) => ((AV.dat (D.str zs)), [])) (P7 [(AV.dat (D.str x4.1))] [])) fun x9 =>
               (rAsk ((ByteArray.toList x9) == (ByteArray.toList t))
                (rGet (fnS (fun (x : Unit) => ((AV.dat (D.bool true)), [])) (P6 [] [])) fun x10 =>
                 (some ((AV.dat (D.bool true)), []))
                )
                (some ((AV.dat (D.bool false)), []))
               )
              )
             )
             (rAsk ((ByteArray.toList x7.1) == (ByteArray.toList s))
              (rAsk (x7.2 == (0 : Int))
               (rAsk (x5.2 != (0 : Int))
                (rGet (fnS (fun (x : Unit) => ((AV.dat (D.bool true)), [])) (P6 [] [])) fun x11 =>
                 (some ((AV.dat (D.bool true)), []))
                )
                (rGet (fnS (fun (zs : ByteArray) => ((AV.dat (D.str zs)), [])) (P7 [(AV.dat (D.str x4.1))] [])) fun x12 =>
                 (rAsk ((ByteArray.toList x12) == (ByteArray.toList t))
                  (rGet (fnS (fun (x : Unit) => ((AV.dat (D.bool true)), [])) (P6 [] [])) fun x13 =>
                   (some ((AV.dat (D.bool true)), []))
                  )
                  (some ((AV.dat (D.bool false)), []))
                 )
                )
               )
               (some ((AV.dat (D.bool false)), []))
              )
              (some ((AV.dat (D.bool false)), []))
             )
            )
           )
          )
         )
        )
       )
      )
     )
    )
   )
  )
  := by kernel_rfl
attribute [local irreducible] fnS P6 P7 P8 P9 P10 R8 R9
theorem p8 {t : List UInt8} (h : t.length ≤ 500) : fnS (oLg []) (P8 [.dat (.str (ba t))] []) = some (lgOf (progL t)) := by
  refine fnS_eq (out := oLg []) oLg_inj ?_
  unfold P8
  exact pureS_eq rfl (f8_run h) rfl
theorem p9 (t : List UInt8) : fnS (oLg []) (P9 [.dat (.str (ba t))] []) = some (lgOf (refL t)) := by
  refine fnS_eq (out := oLg []) oLg_inj ?_
  unfold P9
  exact pureS_eq rfl (f9_run t) rfl
theorem shortB_le (l : List UInt8) : (shortB l).length ≤ 191 := by
  by_cases h : l.length = 64
  · exact (short_len h).1
  · rw [shortB, if_neg h]
    simp
theorem f3_run (a b : ByteArray) : R3 [.dat (.str a), .dat (.str b)] [] = some (.dat (.bool true), []) := by
  have key : ∀ o, (f3t a b).ev = o → R3 [.dat (.str a), .dat (.str b)] [] = o := fun o h => by
    rw [Tr.ev_run] at h
    exact h
  refine key _ ?_
  rw [f3t_eq]
  have e6 := fnS_eq (out := oT []) oT_inj p6
  rw [ba_of a, ba_of b]
  generalize a.data.toList = s
  generalize b.data.toList = t
  rw [ba_sz, ba_sz]
  by_cases hs : s.length > 500
  · exact aT (by rw [decide_eq_true_eq]; omega) (gStep e6 rfl)
  refine aF (by rw [decide_eq_false_iff_not]; omega) ?_
  by_cases ht : t.length > 500
  · exact aT (by rw [decide_eq_true_eq]; omega) (gStep e6 rfl)
  refine aF (by rw [decide_eq_false_iff_not]; omega) ?_
  have e7 : ∀ l, fnS (oS []) (P7 [.dat (.str (ba l))] []) = some (ba (shortB l)) := fun l => fnS_eq (out := oS []) oS_inj p7'
  have hx := shortB_le s
  refine gStep (e7 s) (gStep (p8 (by omega)) (gStep (p9 t) (gStep p10' ?_)))
  rw [long_eq t]
  refine aF (by simp) (aF (by simp) (aF (by simp) (gStep (p8 (by omega)) ?_)))
  have hq : ∀ o, (rAsk ((lgOf (refL t)).2 != (0 : Int)) (rGet (fnS (oT []) (P6 [] [])) fun _ => (some ((AV.dat (D.bool true)), []))) (rGet (fnS (oS []) (P7 [(AV.dat (D.str (lgOf (refL t)).1))] [])) fun x9 => (rAsk ((ByteArray.toList x9) == (ByteArray.toList (ba t))) (rGet (fnS (oT []) (P6 [] [])) fun _ => (some ((AV.dat (D.bool true)), []))) (some ((AV.dat (D.bool false)), o)))) : Option (AV × List Ent)) = some (.dat (.bool true), []) := by
    intro o
    cases hr : refL t with
    | none => exact aT rfl (gStep e6 rfl)
    | some u =>
      obtain ⟨h1, _⟩ := refL_some hr
      refine aF rfl (gStep (e7 u) (aT ?_ (gStep e6 rfl)))
      rw [ba_list, ba_list, h1]
      simp
  by_cases h64 : s.length = 64
  · refine aF (by simp [h64]) ?_
    rw [progL_short h64]
    exact aT (by simp [lgOf]) (aT rfl (hq []))
  · refine aT ?_ (hq [])
    simp only [Bool.not_eq_true', beq_eq_false_iff_ne, ne_eq]
    omega

theorem strAV9 (s : ByteArray) : argAV PP 9 [.str s] = .dat (.str s) := by
  unfold argAV
  rw [if_neg (show ¬ aggT PP 9 = true by rw [show aggT PP 9 = false by kernel_rfl]; simp)]
  rfl
theorem spec3 : ∀ dss : List (List D), All2 (fun t d => Ty PP 4 t d) Go.Proofs.Tryd.f3.params.toList dss → ∃ spec : Go.Eng.Spec, COk PP 3 spec ∧ ∃ G', spec (List.zipWith (argAV PP) Go.Proofs.Tryd.f3.params.toList dss) [] = some (.dat (.bool true), G') := by
  intro dss h
  rw [Go.Proofs.Tryd.params3] at h ⊢
  match dss, h with
  | [d1, d2], h =>
    obtain ⟨a, rfl, ha⟩ := Ty.str Go.Proofs.Tryd.underlying9 h.1
    obtain ⟨b, rfl, hb⟩ := Ty.str Go.Proofs.Tryd.underlying9 h.2.1
    refine ⟨R3, c3, [], ?_⟩
    change R3 [argAV PP 9 [.str a], argAV PP 9 [.str b]] [] = _
    rw [strAV9, strAV9]
    exact f3_run a b
  | [], h => exact h.elim
  | [_], h => exact h.2.elim
  | _ :: _ :: _ :: _, h => exact h.2.2.elim
end Go.Eng

namespace Go.Proofs.YtnbdibeainhnhaaDoor
open Go Go.Eng Go.ChangeShapes Go.WideShapes Go.ChangeAt Go.RowKit
set_option maxRecDepth 100000

theorem lifted3 (os : Os) (started : os.Started) (H : Type) (enc : TypeId × Value → H) :
    ReturnsInHanded {} Tryd.checked os 3 .any (fun w args => (Rows.sectorShortsSpec.pre enc Tryd.prog Tryd.f3 [] false w args ∧ laidMetH Tryd.prog Rows.sectorShortsRow.laid w) ∧ sizedMet enc Tryd.prog Tryd.f3 (OpenSpec.ofChange Rows.sectorShortsSpec) false w args)
      (Rows.sectorShortsSpec.post enc Tryd.prog Tryd.f3 false true false false) := by
  refine returnsInHanded_laid_shaped (C := Tryd.checked) (X := fun w _ => laidMetH Tryd.prog Rows.sectorShortsRow.laid w) (fun _ _ _ hh h => h.of_heap hh) ownSe started (by kernel_rfl) Tryd.func3
    (ChangeSpec.witness_shaped (enc := enc) (C := Tryd.checked) (os := os) (X := fun w _ => laidMetH Tryd.prog Rows.sectorShortsRow.laid w) false (World.laidAll Tryd.prog os laidSe) #[.string ⟨#[]⟩, .string ⟨#[]⟩] 8 (World.laidAll_os _ _ _)
      (World.shaped_of_ZipB (by kernel_rfl) (by kernel_rfl)) (by kernel_rfl) (by kernel_rfl) (by kernel_rfl) (laidWorld_met os _)) ?_
  intro W base args ds gs before hval0 hW _ _ hL hsh
  have hW' := hW
  obtain ⟨p, q, hA0, hV, rfl, hfz, hnd⟩ := hW
  have hA : DataW.TrodAll enc Tryd.prog W 0 (fun _ => true) true Tryd.f3.params.toList args.toList ds p := hA0
  rw [Tryd.params3] at hA
  obtain ⟨v0, v1, d0, d1, p0, p1, rfl, rfl, rfl, h0, h1⟩ := trodAll_two hA
  obtain ⟨rfl, rfl⟩ := trodVars_none hV
  exact law_contract (m := 4) (tb := 4) (by kernel_rfl) spec3 hval0 hW' (by kernel_rfl) (by kernel_rfl) rfl rfl rfl rfl (laid_ok hL hsh)

theorem sectorShortsRow_holds : Rows.SectorShortsSaid :=
  OpenClaim.holds_of_wide 3 Tryd.f3 rfl rfl rfl rfl rfl rfl rfl ⟨rfl, rfl, rfl, rfl, rfl⟩ rfl rfl rfl rfl rfl (by kernel_rfl) Tryd.func3 (by kernel_rfl)
    (of_decide_eq_true (by kernel_rfl)) (by unfold Func.isWrapper; first | (rw [if_pos (by decide +kernel)]; kernel_rfl) | (rw [if_neg (by decide +kernel)]; exact ⟨rfl, rfl⟩))
    (fun os started H enc _ => lifted3 os started H enc)

theorem sectorShorts_holds : Rows.SectorShortsCardSaid :=
  Claim7.holds_tied_plain_at .later [] [.data, .data, .data, .data, .sentinel, .sentinel, .pinned] true (true, "60e2e7e09b6cc6f553914a6b7ae05fc52ae995787144df4cf471bc64dad5831c") true
    sectorShortsRow_holds (fun _ h => by cases h) (by kernel_rfl) (fun _ h => by cases h) sectorShorts_row_tie rfl ⟨rfl, rfl⟩ (by kernel_rfl) rfl
    (fun f fn hf hfn => by
      obtain rfl : f = 3 := Option.some.inj ((show Tryd.prog.funcNamed "pentimento/pentimentolaw05.SectorShorts" = some 3 by kernel_rfl).symm.trans hf) |>.symm
      obtain rfl : fn = Tryd.f3 := (Option.some.inj (Tryd.func3.symm.trans hfn)).symm
      exact ⟨by kernel_rfl, fun j t ht => by
        rw [Tryd.params3] at ht
        have hm : t ∈ [9, 9] := by simpa using Array.mem_of_getElem? ht
        have hall : ([9, 9].all fun u => !Tryd.prog.wantsStandIn u) = true := by kernel_rfl
        exact (show Tryd.prog.wantsStandIn t = false by simpa using List.all_eq_true.1 hall t hm)⟩)
    (by kernel_rfl)
#print axioms sectorShorts_holds
end Go.Proofs.YtnbdibeainhnhaaDoor
end
