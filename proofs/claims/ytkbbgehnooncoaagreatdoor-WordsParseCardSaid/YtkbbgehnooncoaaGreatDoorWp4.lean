/- What a tree tells, the evaluator tells. -/
import Derived.Test.YtkbbgehnooncoaaGreatDoorWp3
section
namespace Go.Eng
open Go
variable [Inhabited Pkg]
set_option linter.unusedSectionVars false

theorem run_get {α β : Type} {o : Option β} {k : β → Tr α} {a : α} (h : (Tr.get o k).run = some a) : ∃ x, o = some x ∧ (k x).run = some a := by
  cases o with
  | none => cases h
  | some x => exact ⟨x, rfl, h⟩

theorem run_bindS {α β : Type} {t : Tr α} {f : α → Tr β} {b : β} (h : (t.bind f).run = some b) : ∃ a, t.run = some a ∧ (f a).run = some b := by
  rw [Tr.run_bind] at h
  exact Option.bind_eq_some_iff.1 h

theorem D.anyInt?_some {d : D} {n : Int} (h : D.anyInt? d = some n) : ∃ k, d = .int k n := by
  cases d <;> simp_all [D.anyInt?]

theorem D.list?_some {d : D} {p : LK × Nat × Row} (h : D.list? d = some p) : d = .list p.1 p.2.1 p.2.2 := by
  cases d <;> simp_all [D.list?]
  rw [← h]
  exact ⟨rfl, rfl, rfl⟩

theorem tIntBin_ok {op : BinOp} {k : IntKind} {d e : D} {r : AV} (h : (tIntBin op k d e).run = some r) : ∃ a k' b, d = .int k a ∧ e = .int k' b ∧ intBin op k a k' b = some r := by
  unfold tIntBin at h
  split at h
  case h_5 =>
    obtain ⟨a, ha, h⟩ := run_get h
    obtain ⟨b, hb, h⟩ := run_get h
    rw [Tr.run_of] at h
    exact ⟨a, k, b, D.int?_some ha, D.int?_some hb, h⟩
  all_goals
    obtain ⟨a, ha, h⟩ := run_get h
    obtain ⟨b, hb, h⟩ := run_get h
    obtain ⟨h0, h⟩ := Tr.run_req h
    simp only [Tr.run, Option.some.injEq] at h
    have ha := D.int?_some ha
  · obtain ⟨k', hb⟩ := D.anyInt?_some hb
    refine ⟨a, k', b, ha, hb, ?_⟩
    have hn : ¬ b < 0 := by simpa using h0
    simp only [intBin, if_neg hn, h]
  · obtain ⟨k', hb⟩ := D.anyInt?_some hb
    refine ⟨a, k', b, ha, hb, ?_⟩
    have hn : ¬ b < 0 := by simpa using h0
    simp only [intBin, if_neg hn, h]
  · refine ⟨a, k, b, ha, D.int?_some hb, ?_⟩
    have hn : ¬ b = 0 := by simpa using h0
    simp [intBin, hn, h]
  · refine ⟨a, k, b, ha, D.int?_some hb, ?_⟩
    have hn : ¬ b = 0 := by simpa using h0
    simp [intBin, hn, h]

theorem tStrBin_ok {op : BinOp} {d e : D} {r : AV} (h : (tStrBin op d e).run = some r) : ∃ a b, d = .str a ∧ e = .str b ∧ strBin op a b = some r := by
  unfold tStrBin at h
  obtain ⟨a, ha, h⟩ := run_get h
  obtain ⟨b, hb, h⟩ := run_get h
  refine ⟨a, b, D.str?_some ha, D.str?_some hb, ?_⟩
  split at h
  · obtain ⟨h0, h⟩ := Tr.run_req h
    simp only [Tr.run, Option.some.injEq] at h
    have hn : ¬ (((a.size + b.size : Nat) : Int) > IntKind.i64.max) := by
      have := Nat.le_of_ble_eq_true h0
      have h2 : IntKind.i64.max = 9223372036854775807 := by decide
      omega
    simp only [strBin, if_neg hn, h]
  · rw [Tr.run_of] at h
    exact h

theorem tNil_ok {k : Nat} {x : AV} {b : Bool} (h : (tNil k x).run = some b) : isNil x = some (k, b) := by
  unfold tNil at h
  split at h
  · rename_i d
    split at h
    · rename_i hk
      obtain ⟨p, hp, h2⟩ := run_get h
      simp only [Tr.run, Option.some.injEq] at h2
      have := D.list?_some hp
      subst this
      simp only [isNil, hk, h2]
    · cases h
  · split at h
    · rename_i k1 a hx
      split at h
      · rename_i hk
        simp only [Tr.run, Option.some.injEq] at h
        rw [hx, hk, h]
      · cases h
    · cases h

theorem tbin_ok {T : Tab} {op : BinOp} {t : TypeId} {x y r : AV} {lit : Bool} (h : (tbin T op t x y lit).run = some r) : bin T op t x y lit = some r := by
  unfold tbin at h
  split at h
  · rename_i k hk
    split at h
    · obtain ⟨a, k', b, rfl, rfl, h2⟩ := tIntBin_ok h
      simp only [bin, h2]
    · cases h
  · rename_i hk
    split at h
    · obtain ⟨a, b, rfl, rfl, h2⟩ := tStrBin_ok h
      simp only [bin, h2]
    · cases h
  · rename_i hk
    split at h
    · obtain ⟨a, ha, h2⟩ := run_get h
      obtain ⟨b, hb, h3⟩ := run_get h2
      have ha := D.bool?_some ha
      have hb := D.bool?_some hb
      subst ha hb
      simp only [bin, hk]
      cases op <;> first
        | (simp only [Tr.run, Option.some.injEq] at h3; simp only [h3]; done)
        | (cases h3; done)
    · cases h
  · rename_i k _ _ _ hk
    split at h
    · rename_i hlit
      obtain ⟨a, ha, h2⟩ := run_bindS h
      obtain ⟨b, hb, h3⟩ := run_bindS h2
      obtain ⟨h0, h4⟩ := Tr.run_req h3
      clear h h2 h3
      have ha := tNil_ok ha
      have hb := tNil_ok hb
      have hne : nilEq (nilKind k) x y = some (a && b) := by simp [nilEq, ha, hb, h0]
      unfold bin
      split
      all_goals first
        | (simp [isNil] at ha; done)
        | skip
      simp only [hk, hlit, if_true, hne]
      cases op <;> first
        | (cases h4; done)
        | exact h4
    · rw [Tr.run_of] at h; exact h
  · cases h

theorem tindexAddr_ok {T : Tab} {t : TypeId} {x i r : AV} (h : (tindexAddr T t x i).run = some r) : indexAddr T t x i = some r := by
  unfold tindexAddr at h
  split at h
  · obtain ⟨n, hn, h2⟩ := run_get h
    obtain ⟨k, rfl⟩ := D.anyInt?_some hn
    simp only [indexAddr]
    clear h hn
    split at h2
    · rename_i len e hk
      simp only [hk]
      split at h2
      · rename_i sz hsz
        simp only [hsz]
        obtain ⟨h0, h3⟩ := Tr.run_req h2
        have hc : 0 ≤ n ∧ n < len := by simpa using h0
        split at h3
        all_goals first
          | (cases h3; done)
          | (simp only [Tr.run, Option.some.injEq] at h3
             simp only [if_pos hc, h3])
      · cases h2
    · rename_i e hk
      simp only [hk]
      split at h2
      · rename_i sz hsz
        simp only [hsz]
        split at h2
        · split at h2
          · rename_i hs
            obtain ⟨h0, h3⟩ := Tr.run_req h2
            simp only [Bool.and_eq_true, decide_eq_true_eq] at h0
            simp only [Tr.run, Option.some.injEq] at h3
            simp only [if_pos hs, if_pos h0, h3]
          · cases h2
        · split at h2
          · rename_i hs
            obtain ⟨h0, h3⟩ := Tr.run_req h2
            simp only [Bool.and_eq_true, decide_eq_true_eq] at h0
            simp only [Tr.run, Option.some.injEq] at h3
            simp only [if_pos hs, if_pos h0, h3]
          · cases h2
        · obtain ⟨p, hp, h3⟩ := run_get h2
          have hp := D.list?_some hp
          subst hp
          obtain ⟨h0, h4⟩ := Tr.run_req h3
          simp only [Bool.and_eq_true, decide_eq_true_eq] at h0
          simp only [Tr.run, Option.some.injEq] at h4
          simp only [if_pos h0.1, if_pos h0.2, h4]
        · cases h2
      · cases h2
    · cases h2
  · cases h

theorem tload_ok {T : Tab} {m : Mem} {t : TypeId} {a r : AV} (h : (tload T m t a).run = some r) : load T m t a = some r := by
  unfold tload at h
  split at h
  · rename_i ti hti
    split at h
    · cases h
    · rename_i hpos
      split at h
      · split at h
        · rename_i md sz' xs hr
          split at h
          · rename_i hs
            obtain ⟨x, hx, h2⟩ := run_get h
            have := run_trowVal h2 (by omega)
            simp only [load, hti, hr, if_pos hs, hx, this]
          · cases h
        · cases h
      · split at h
        · rename_i md sz' xs hr
          split at h
          · rename_i hs
            obtain ⟨x, hx, h2⟩ := run_get h
            have := run_trowVal h2 (by omega)
            simp only [load, hti, hr, if_pos hs, hx, this]
          · cases h
        · cases h
      · obtain ⟨x, hx, h2⟩ := run_get h
        have := run_trowVal h2 (by omega)
        simp only [load, hti, hx, this]
      · rw [Tr.run_of] at h; exact h
  · cases h

theorem tindex_ok {T : Tab} {t : TypeId} {x i r : AV} (h : (tindex T t x i).run = some r) : index T t x i = some r := by
  unfold tindex at h
  split at h
  · split at h
    · split at h
      · rename_i hk
        obtain ⟨s, hs, h2⟩ := run_get h
        obtain ⟨n, hn, h3⟩ := run_get h2
        obtain ⟨h0, h4⟩ := Tr.run_req h3
        obtain ⟨b, hb, h5⟩ := run_get h4
        have hs := D.str?_some hs
        obtain ⟨k, hn⟩ := D.anyInt?_some hn
        subst hs hn
        simp only [Tr.run, Option.some.injEq] at h5
        simp only [index, hk, if_pos (of_decide_eq_true h0), hb, h5]
      · cases h
    · cases h
  · rw [Tr.run_of] at h; exact h

theorem tBound_ok {d n : Int} {x : Option AV} (h : (tBound d x).run = some n) : optInt d x = some n := by
  unfold tBound at h
  split at h
  · simpa [Tr.run, optInt] using h
  · obtain ⟨m, hm, h2⟩ := run_get h
    obtain ⟨k, rfl⟩ := D.anyInt?_some hm
    simpa [Tr.run, optInt] using h2
  · cases h

theorem tun_ok {op : UnOp} {T : Tab} {t : TypeId} {x r : AV} (h : (tun op T t x).run = some r) : un op x = some r := by
  unfold tun at h
  split at h
  · split at h
    · obtain ⟨n, hn, h2⟩ := run_get h
      have := D.int?_some hn
      subst this
      rw [Tr.run_of] at h2
      exact h2
    · obtain ⟨b, hb, h2⟩ := run_get h
      have := D.bool?_some hb
      subst this
      rw [Tr.run_of] at h2
      exact h2
    · cases h
  · cases h

theorem tBounds_ok {α : Type} {len : Nat} {lo hi : Option AV} {k : Int → Int → Tr α} {a : α} (h : (tBounds len lo hi k).run = some a) :
    ∃ l h', optInt 0 lo = some l ∧ optInt len hi = some h' ∧ 0 ≤ l ∧ l ≤ h' ∧ h' ≤ (len : Int) ∧ (k l h').run = some a := by
  unfold tBounds at h
  obtain ⟨l, h1, h2⟩ := run_bindS h
  obtain ⟨h', h3, h4⟩ := run_bindS h2
  obtain ⟨h0, h5⟩ := Tr.run_req h4
  simp only [Bool.and_eq_true, decide_eq_true_eq] at h0
  exact ⟨l, h', tBound_ok h1, tBound_ok h3, h0.1, h0.2.1, h0.2.2, h5⟩

theorem tslice_ok {T : Tab} {t : TypeId} {x r : AV} {lo hi mx : Option AV} (h : (tslice T t x lo hi mx).run = some r) : slice T t x lo hi mx = some r := by
  unfold tslice at h
  split at h
  · rename_i hk
    split at h
    · split at h
      · obtain ⟨s, hs, h2⟩ := run_get h
        have hs := D.str?_some hs
        subst hs
        obtain ⟨l, h', q1, q2, q3, q4, q5, q6⟩ := tBounds_ok h2
        simp only [Tr.run, Option.some.injEq] at q6
        simp only [slice, hk, q1, q2, if_pos (⟨q3, q4, q5⟩ : 0 ≤ l ∧ l ≤ h' ∧ h' ≤ (s.size : Int)), q6]
      · cases h
    · cases h
  · rename_i e hk
    split at h
    · rename_i sz hsz
      split at h
      · obtain ⟨p, hp, h2⟩ := run_get h
        have hp := D.list?_some hp
        subst hp
        obtain ⟨l, h', q1, q2, q3, q4, q5, q6⟩ := tBounds_ok h2
        split at q6
        · obtain ⟨c0, c1⟩ := Tr.run_req q6
          simp only [Bool.or_eq_true, decide_eq_true_eq] at c0
          simp only [Tr.run, Option.some.injEq] at c1
          simp only [slice, hk, hsz, q1, q2, if_pos (⟨q3, q4, q5, c0⟩ : 0 ≤ l ∧ l ≤ h' ∧ h' ≤ (p.2.2.length : Int) ∧ (p.1 = .nil ∨ p.2.1 = sz)), c1]
        · obtain ⟨m, hm, c⟩ := run_get q6
          obtain ⟨k, rfl⟩ := D.anyInt?_some hm
          obtain ⟨c0, c1⟩ := Tr.run_req c
          simp only [Bool.and_eq_true, decide_eq_true_eq, Bool.not_eq_true', decide_eq_false_iff_not] at c0
          simp only [Tr.run, Option.some.injEq] at c1
          simp only [slice, hk, hsz, q1, q2, if_pos (⟨q3, q4, q5, c0.1, c0.2.1, c0.2.2.1, c0.2.2.2⟩ : 0 ≤ l ∧ l ≤ h' ∧ h' ≤ (p.2.2.length : Int) ∧ p.1 ≠ .nil ∧ p.2.1 = sz ∧ m = h' ∧ hi.isSome = true), c1]
        · cases q6
      · rename_i f r0 s off len
        split at h
        · rename_i hs
          obtain ⟨l, h', q1, q2, q3, q4, q5, q6⟩ := tBounds_ok h
          split at q6
          · simp only [Tr.run, Option.some.injEq] at q6
            simp only [slice, hk, hsz, if_pos hs, q1, q2, if_pos (⟨q3, q4, q5⟩ : 0 ≤ l ∧ l ≤ h' ∧ h' ≤ (len : Int)), q6]
          · obtain ⟨m, hm, c⟩ := run_get q6
            obtain ⟨k, rfl⟩ := D.anyInt?_some hm
            obtain ⟨c0, c1⟩ := Tr.run_req c
            simp only [Bool.and_eq_true, decide_eq_true_eq] at c0
            simp only [Tr.run, Option.some.injEq] at c1
            simp only [slice, hk, hsz, if_pos hs, q1, q2, if_pos (⟨q3, q4, q5, c0.1, c0.2⟩ : 0 ≤ l ∧ l ≤ h' ∧ h' ≤ (len : Int) ∧ m = h' ∧ hi.isSome = true), c1]
          · cases q6
        · cases h
      · rename_i f g j e' s off len
        split at h
        · rename_i hs
          obtain ⟨l, h', q1, q2, q3, q4, q5, q6⟩ := tBounds_ok h
          split at q6
          · simp only [Tr.run, Option.some.injEq] at q6
            simp only [slice, hk, hsz, if_pos hs, q1, q2, if_pos (⟨q3, q4, q5⟩ : 0 ≤ l ∧ l ≤ h' ∧ h' ≤ (len : Int)), q6]
          · obtain ⟨m, hm, c⟩ := run_get q6
            obtain ⟨k, rfl⟩ := D.anyInt?_some hm
            obtain ⟨c0, c1⟩ := Tr.run_req c
            simp only [Bool.and_eq_true, decide_eq_true_eq] at c0
            simp only [Tr.run, Option.some.injEq] at c1
            simp only [slice, hk, hsz, if_pos hs, q1, q2, if_pos (⟨q3, q4, q5, c0.1, c0.2⟩ : 0 ≤ l ∧ l ≤ h' ∧ h' ≤ (len : Int) ∧ m = h' ∧ hi.isSome = true), c1]
          · cases q6
        · cases h
      · cases h
    · cases h
  · cases h

theorem tnews_ok {T : Tab} {m : Mem} {sz : Nat} {t2 : TypeId} {y : AV} {ys : Row} (h : (tnews T m sz t2 y).run = some ys) : newsOf m sz y = some ys := by
  unfold tnews at h
  split at h
  · split at h
    · split at h
      · rename_i hs
        obtain ⟨s, hs', h2⟩ := run_get h
        have hs' := D.str?_some hs'
        subst hs'
        simp only [Tr.run, Option.some.injEq] at h2
        simp only [newsOf, if_pos hs, h2]
      · cases h
    · obtain ⟨p, hp, h2⟩ := run_get h
      have hp := D.list?_some hp
      subst hp
      obtain ⟨h0, h3⟩ := Tr.run_req h2
      simp only [Bool.or_eq_true, decide_eq_true_eq] at h0
      simp only [Tr.run, Option.some.injEq] at h3
      simp only [newsOf, rd, if_pos h0, h3]
  · rw [Tr.run_of] at h; exact h

theorem run_ask {α : Type} {b : Bool} {t e : Tr α} {a : α} (h : (Tr.ask b t e).run = some a) : (b = true ∧ t.run = some a) ∨ (b = false ∧ e.run = some a) := by
  cases b with
  | true => exact .inl ⟨rfl, h⟩
  | false => exact .inr ⟨rfl, h⟩

theorem tgrown_ok {x : AV} {m : Mem} {fresh sz len : Nat} {xs ys : Row} {r : AV × Mem} (h : (tgrown x m fresh sz xs ys len).run = some r) :
    (match (generalizing := false) ys with
      | [] => some (x, m)
      | _ => some (.sh false fresh sz 0 (len + ys.length), m.set (.loc fresh) (.row .excl sz (xs ++ ys)))) = some r := by
  unfold tgrown at h
  cases ys with
  | nil => simpa [Tr.run] using h
  | cons y ys => simpa [Tr.run] using h

theorem fits_ok {te : TI} {n : Nat} (h : fits te n = true) : n * te.bytes ≤ 140737488355328 ∧ n ≤ 9223372036854775807 := by
  unfold fits at h
  simpa using h

theorem tappend_ok {T : Tab} {m : Mem} {fresh : Nat} {t t2 : TypeId} {x y : AV} {r : AV × Mem} (h : (tappend T m fresh t t2 x y).run = some r) : append T m fresh t t2 x y = some r := by
  unfold tappend at h
  split at h
  · rename_i ti hti
    split at h
    · rename_i e he
      split at h
      · rename_i te hte
        split at h
        · rename_i hc
          obtain ⟨ys, hys, h2⟩ := run_bindS h
          have hys := tnews_ok hys
          simp only [append, hti, he, hte, if_pos hc, hys]
          clear h
          split at h2
          · obtain ⟨p, hp, h3⟩ := run_get h2
            have hp := D.list?_some hp
            subst hp
            obtain ⟨k, sz, xs⟩ := p
            rcases run_ask h3 with ⟨hk, h4⟩ | ⟨hk, h4⟩
            · have hk : k = .nil := by simpa using hk
              subst hk
              obtain ⟨h0, h5⟩ := Tr.run_req h4
              simp only [Bool.and_eq_true, List.isEmpty_iff] at h0
              obtain ⟨hx, hf⟩ := h0
              have hx : xs = [] := hx
              subst hx
              simp only [if_pos (fits_ok hf)]
              cases ys with
              | nil => simpa [Tr.run] using h5
              | cons y ys => simpa [Tr.run] using h5
            · obtain ⟨h0, h5⟩ := Tr.run_req h4
              simp only [Bool.and_eq_true, decide_eq_true_eq] at h0
              obtain ⟨hk, hsz, hf⟩ := h0
              have hk : k = .full := hk
              subst hk
              have hsz : sz = te.size := hsz
              have hff := fits_ok hf
              simp only [if_pos (⟨hsz, hff.1, hff.2⟩ : sz = te.size ∧ (xs.length + ys.length) * te.bytes ≤ 140737488355328 ∧ xs.length + ys.length ≤ 9223372036854775807)]
              exact tgrown_ok h5
          · rename_i full i sz off len
            split at h2
            · rename_i hs
              split at h2
              · rename_i md sz' xs hr
                split at h2
                · rename_i hs'
                  obtain ⟨h0, h3⟩ := Tr.run_req h2
                  simp only [Bool.and_eq_true, decide_eq_true_eq] at h0
                  have hff := fits_ok h0.2
                  simp only [if_pos hs, hr, if_pos hs', if_pos (⟨h0.1, hff.1, hff.2⟩ : off + len ≤ xs.length ∧ (len + ys.length) * te.bytes ≤ 140737488355328 ∧ len + ys.length ≤ 9223372036854775807)]
                  rcases run_ask h3 with ⟨hf, h4⟩ | ⟨hf, h4⟩
                  · subst hf
                    simp only [if_true]
                    exact tgrown_ok h4
                  · subst hf
                    simp only [Bool.false_eq_true, if_false]
                    split at h4
                    · cases h4
                    · rename_i hmd
                      obtain ⟨h5, h6⟩ := Tr.run_req h4
                      simp only [Bool.and_eq_true, decide_eq_true_eq] at h5
                      rw [if_pos ⟨h5.1, h5.2, hmd⟩]
                      exact h6
                · cases h2
              · cases h2
            · cases h2
          · rename_i full g j e' sz off len
            split at h2
            · rename_i hs
              split at h2
              · rename_i md sz' xs hr
                split at h2
                · rename_i hs'
                  obtain ⟨h0, h3⟩ := Tr.run_req h2
                  simp only [Bool.and_eq_true, decide_eq_true_eq] at h0
                  have hff := fits_ok h0.2
                  simp only [if_pos hs, hr, if_pos hs', if_pos (⟨h0.1, hff.1, hff.2⟩ : off + len ≤ xs.length ∧ (len + ys.length) * te.bytes ≤ 140737488355328 ∧ len + ys.length ≤ 9223372036854775807)]
                  rcases run_ask h3 with ⟨hf, h4⟩ | ⟨hf, h4⟩
                  · subst hf
                    simp only [if_true]
                    exact tgrown_ok h4
                  · subst hf
                    simp only [Bool.false_eq_true, if_false]
                    split at h4
                    · cases h4
                    · rename_i hmd
                      obtain ⟨h5, h6⟩ := Tr.run_req h4
                      simp only [Bool.and_eq_true, decide_eq_true_eq] at h5
                      rw [if_pos ⟨h5.1, h5.2, hmd⟩]
                      exact h6
                · cases h2
              · cases h2
            · cases h2
          · cases h2
        · cases h
      · cases h
    · cases h
  · cases h

theorem tgoes_ok {ops : List Oper} {tmps : List AV} {o : Oper} {b : Bool} (h : (tgoes ops tmps o).run = some b) : goes ops tmps o = some b := by
  unfold tgoes at h
  unfold goes
  split at h
  · rename_i hg
    simp only [hg]
    simpa [Tr.run] using h
  · rename_i j want hg
    simp only [hg]
    split at h
    · rename_i d hd
      simp only [hd]
      split at h
      · rename_i v hv
        obtain ⟨c, hc, h2⟩ := run_get h
        have hc := D.bool?_some hc
        subst hc
        simp only [hv]
        rcases run_ask h2 with ⟨q1, q2⟩ | ⟨q1, q2⟩
        · simp only [Tr.run, Option.some.injEq] at q2
          rw [q1, q2]
        · simp only [Tr.run, Option.some.injEq] at q2
          rw [q1, q2]
      · rename_i hv
        simp only [hv]
        simpa [Tr.run] using h
      · cases h
    · cases h

theorem tpick_ok {c a b r : AV} (h : (tpick c a b).run = some r) : pick c a b = some r := by
  unfold tpick at h
  split at h
  · obtain ⟨t, ht, h2⟩ := run_get h
    have ht := D.bool?_some ht
    subst ht
    rcases run_ask h2 with ⟨q1, q2⟩ | ⟨q1, q2⟩
    · subst q1; exact q2
    · subst q1; exact q2
  · cases h

theorem keepM_ok {t : Tr AV} {m : Mem} {r : AV × Mem} {o : Option AV} (h : (t.keepM m).run = some r) (ho : ∀ a, t.run = some a → o = some a) : o.map (·, m) = some r := by
  obtain ⟨a, h1, h2⟩ := run_bindS h
  rw [ho a h1]
  simpa [Tr.run] using h2

end Go.Eng
end
