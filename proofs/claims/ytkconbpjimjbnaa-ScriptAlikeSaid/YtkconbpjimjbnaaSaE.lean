/- ScriptAlike answers true at any two answers. -/
import Derived.Test.YtkconbpjimjbnaaSaD
namespace Go.Eng
open Go
set_option maxRecDepth 100000

theorem f5t_eq (w n m : Int) (s : ByteArray) (k : LK) (xs : Row) (w' n' m' : Int) (s' : ByteArray) (k' : LK) (xs' : Row) : (f5t w n m s k xs w' n' m' s' k' xs').ev =
  (rGet (fnS (fun (b : Bool) => ((AV.dat (D.bool b)), [])) (R24 [(AV.agg [(AV.dat (D.int IntKind.i64 w)), (AV.dat (D.int IntKind.i64 n)), (AV.dat (D.int IntKind.i64 m)), (AV.dat (D.str s)), (AV.dat (D.list k 1 xs))]), (AV.agg [(AV.dat (D.int IntKind.i64 w')), (AV.dat (D.int IntKind.i64 n')), (AV.dat (D.int IntKind.i64 m')), (AV.dat (D.str s')), (AV.dat (D.list k' 1 xs'))])] [])) fun x1 =>
   (rGet (fnS (fun (b : Bool) => ((AV.dat (D.bool b)), [])) (R25 [(AV.agg [(AV.dat (D.int IntKind.i64 w)), (AV.dat (D.int IntKind.i64 n)), (AV.dat (D.int IntKind.i64 m)), (AV.dat (D.str s)), (AV.dat (D.list k 1 xs))]), (AV.agg [(AV.dat (D.int IntKind.i64 w')), (AV.dat (D.int IntKind.i64 n')), (AV.dat (D.int IntKind.i64 m')), (AV.dat (D.str s')), (AV.dat (D.list k' 1 xs'))])] [])) fun x2 =>
    (rAsk (x1 == x2)
     (rGet (fnS (fun (b : Bool) => ((AV.dat (D.bool b)), [])) (R24 [(AV.agg [(AV.dat (D.int IntKind.i64 w)), (AV.dat (D.int IntKind.i64 n)), (AV.dat (D.int IntKind.i64 m)), (AV.dat (D.str s)), (AV.dat (D.list k 1 xs))]), (AV.agg [(AV.dat (D.int IntKind.i64 w)), (AV.dat (D.int IntKind.i64 n)), (AV.dat (D.int IntKind.i64 m)), (AV.dat (D.str s)), (AV.dat (D.list k 1 xs))])] [])) fun x3 =>
      (rAsk x3
       (rGet (fnS (fun (G' : List Ent) => ((AV.dat (D.bool true)), G')) (R18 [] [])) fun x4 =>
        (some ((AV.dat (D.bool true)), x4))
       )
       (some ((AV.dat (D.bool false)), []))
      )
     )
     (some ((AV.dat (D.bool false)), []))
    )
   )
  )
  := by kernel_rfl

theorem known_ev : (orcN FT TT 300 HH 8 18 [] []).map (·.1) = some (.dat (.bool true)) := by kernel_rfl

theorem known_run : ∃ G', R18 [] [] = some (out18 G') := by
  have := known_ev
  unfold R18
  cases ho : orcN FT TT 300 HH 8 18 [] [] with
  | none => rw [ho] at this; cases this
  | some r =>
    rw [ho] at this
    simp only [Option.map_some, Option.some.injEq] at this
    exact ⟨r.2, by rw [out18, ← this]⟩

theorem alike_self {w n m : Int} {s : ByteArray} {us : List Int} : alikeB w n m s us w n m s us = true := by simp [alikeB]

theorem f5_run {w n m : Int} {s : ByteArray} {k : LK} {us : List Int} {w' n' m' : Int} {s' : ByteArray} {k' : LK} {us' : List Int} (hm : us.length ≤ maxLen) :
    ∃ G', (f5t w n m s k (encI us) w' n' m' s' k' (encI us')).run = some (.dat (.bool true), G') := by
  rw [← Tr.ev_run, f5t_eq]
  have h1 := fnS_eq (out := outb []) outb_inj (show R24 [ans w n m s k (encI us), ans w' n' m' s' k' (encI us')] [] = some (outb [] (alikeB w n m s us w' n' m' s' us')) from f24_run hm)
  have h2 := fnS_eq (out := outb []) outb_inj (show R25 [ans w n m s k (encI us), ans w' n' m' s' k' (encI us')] [] = some (outb [] (alikeB w n m s us w' n' m' s' us')) from f25_run hm)
  have h3 := fnS_eq (out := outb []) outb_inj (show R24 [ans w n m s k (encI us), ans w n m s k (encI us)] [] = some (outb [] (alikeB w n m s us w n m s us)) from f24_run hm)
  rw [alike_self] at h3
  obtain ⟨G', hG⟩ := known_run
  have h4 := fnS_eq (out := out18) out18_inj hG
  unfold outb ans at h1 h2 h3
  unfold out18 at h4
  refine ⟨G', ?_⟩
  rw [h1, h2, h3, h4]
  simp only [rGet, rAsk, beq_self_eq_true]

theorem ans_of {ds : List D} (h : Ty Go.Proofs.Try.prog 4 55 ds) : ∃ w n m s k us, argAV Go.Proofs.Try.prog 55 ds = ans w n m s k (encI us) ∧ us.length ≤ maxLen := by
  have h := Ty.struct Go.Proofs.Try.underlying55 h
  obtain ⟨p1, q1, rfl, t1, p2, q2, rfl, t2, p3, q3, rfl, t3, p4, q4, rfl, t4, p5, q5, rfl, t5, hq⟩ := h
  cases hq
  obtain ⟨w, rfl, _⟩ := Ty.int Go.Proofs.Try.underlying30 t1
  obtain ⟨n, rfl, _⟩ := Ty.int Go.Proofs.Try.underlying2 t2
  obtain ⟨m, rfl, _⟩ := Ty.int Go.Proofs.Try.underlying2 t3
  obtain ⟨s, rfl, _⟩ := Ty.str Go.Proofs.Try.underlying9 t4
  obtain ⟨k, us, rfl, hm⟩ := Ty.ints Go.Proofs.Try.underlying53 Go.Proofs.Try.underlying3 (by kernel_rfl) t5
  refine ⟨w, n, m, s, k, us, ?_, hm⟩
  unfold argAV
  rw [if_pos (show aggT Go.Proofs.Try.prog 55 = true by kernel_rfl)]
  rfl

noncomputable def R5 (a : List AV) (G : List Ent) : Option (AV × List Ent) := (tfn TT t2 noLo Go.Proofs.Try.f5 a G).run
theorem c5 : COk Go.Proofs.Try.prog 5 R5 := tok_fn (H := fun _ => []) TT_ok t2_ok Go.Proofs.Try.func5 (by kernel_rfl) fun _ _ => LoOk2.no _

theorem spec5 : ∀ dss : List (List D), All2 (fun t d => Ty Go.Proofs.Try.prog 4 t d) Go.Proofs.Try.f5.params.toList dss → ∃ spec : Go.Eng.Spec, COk Go.Proofs.Try.prog 5 spec ∧ ∃ G', spec (List.zipWith (argAV Go.Proofs.Try.prog) Go.Proofs.Try.f5.params.toList dss) [] = some (.dat (.bool true), G') := by
  intro dss h
  rw [Go.Proofs.Try.params5] at h ⊢
  match dss, h with
  | [d1, d2], h =>
    obtain ⟨w, n, m, s, k, us, e1, hm⟩ := ans_of h.1
    obtain ⟨w', n', m', s', k', us', e2, _⟩ := ans_of h.2.1
    refine ⟨R5, c5, ?_⟩
    change ∃ G', R5 [argAV Go.Proofs.Try.prog 55 d1, argAV Go.Proofs.Try.prog 55 d2] [] = _
    rw [e1, e2]
    exact f5_run hm
  | [], h => exact h.elim
  | [_], h => exact h.2.elim
  | _ :: _ :: _ :: _, h => exact h.2.2.elim

end Go.Eng
