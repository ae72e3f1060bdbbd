/- What the further trees tell, the evaluator tells; a function's contract out of its tree. -/
import Derived.Test.YtkbbgehnooncoaaGreatDoorWp4
import Derived.Test.YtkbbgehnooncoaaGreatDoorWp5
import Derived.Test.YtkbbgehnooncoaaGreatDoorWp17
import Derived.Test.YtkbbgehnooncoaaGreatDoorWp18
section
namespace Go.Eng
open Go
variable [Inhabited Pkg]
set_option linter.unusedSectionVars false

theorem run_pickN {α : Type} {i : Int} {k : Nat → Tr α} {a : α} : ∀ (m j : Nat), (pickN m i j k).run = some a → ∃ x, j ≤ x ∧ x < j + m ∧ i = (x : Int) ∧ (k x).run = some a
  | 0, j, h => by cases h
  | m + 1, j, h => by
    simp only [pickN] at h
    rcases run_ask h with ⟨h1, h2⟩ | ⟨_, h2⟩
    · exact ⟨j, Nat.le_refl _, by omega, by simpa using h1, h2⟩
    · obtain ⟨x, h3, h4, h5, h6⟩ := run_pickN m (j + 1) h2
      exact ⟨x, by omega, by omega, h5, h6⟩

theorem tindexAddr2_ok {T : Tab} {t : TypeId} {x i r : AV} (h : (tindexAddr2 T t x i).run = some r) : indexAddr T t x i = some r := by
  unfold tindexAddr2 at h
  split at h
  · rename_i d
    split at h
    · rename_i len e hk
      split at h
      · rename_i sz hs
        split at h
        · obtain ⟨n, hn, h2⟩ := run_get h
          obtain ⟨k, hk2⟩ := D.anyInt?_some hn
          subst hk2
          obtain ⟨h0, h3⟩ := Tr.run_req h2
          simp only [Bool.and_eq_true, decide_eq_true_eq] at h0
          simp only [indexAddr, hk, hs, if_pos h0]
          rw [Nat.add_comm]
          exact h3
        · exact tindexAddr_ok h
      · cases h
    · exact tindexAddr_ok h
  · cases h

theorem cellD_some {cs : List AV} {off : Nat} {d : D} (h : cellD cs off = some d) : cs[off]? = some (.dat d) := by
  unfold cellD at h
  split at h
  · rename_i d' hd
    injection h with h
    rw [hd, h]
  · cases h

theorem tload2_ok {T : Tab} {m : Mem} {t : TypeId} {a r : AV} (h : (tload2 T m t a).run = some r) : load T m t a = some r := by
  unfold tload2 at h
  split at h
  · rename_i ti ht
    split at h
    · rename_i q off
      split at h
      · rename_i hc
        simp only [Bool.and_eq_true, decide_eq_true_eq] at hc
        split at h
        · rename_i cs hm
          obtain ⟨d, hd, h2⟩ := run_get h
          have hd := cellD_some hd
          have hlt : off < cs.length := (List.getElem?_eq_some_iff.1 hd).1
          have hca : cellsAt cs off ti.size = some [.dat d] := by
            unfold cellsAt
            rw [hc.2, if_pos (by omega), List.take_one, List.head?_drop, hd]
            rfl
          have hag : ti.k.isAgg = false := by
            cases hk : ti.k <;> rw [hk] at hc <;> first | rfl | (exact absurd hc.1 (by simp [TK.isNum]))
          simp only [load, ht, hm, hca, asVal, hag]
          exact h2
        · cases h
      · rw [Tr.run_of] at h; exact h
    · exact tload_ok h
  · cases h

theorem putCells_eq {cs : List AV} {off n : Nat} {xs : List AV} (h : off + n ≤ cs.length) (hn : xs.length = n) : putCells cs off xs = splice cs off xs := by
  unfold putCells
  split
  · rename_i y
    simp only [List.length_cons, List.length_nil] at hn
    unfold splice
    rw [List.set_eq_take_append_cons_drop, if_pos (by omega)]
    simp
  · rfl

theorem tindex2_ok {T : Tab} {t : TypeId} {x i r : AV} (h : (tindex2 T t x i).run = some r) : index T t x i = some r := by
  unfold tindex2 at h
  split at h
  · rename_i cs
    split at h
    · rename_i d
      split at h
      · obtain ⟨n, hn, h⟩ := run_get h
        obtain ⟨k, rfl⟩ := D.anyInt?_some hn
        obtain ⟨y, _, _, hy, h9⟩ := run_pickN _ _ h
        rw [Tr.run_of] at h9
        subst hy
        exact h9
      · cases h
    · cases h
  · exact tindex_ok h

theorem tlen_ok {T : Tab} {t : TypeId} {x r : AV} (h : (tlen T t x).run = some r) : lenOf T t x = some r := by
  unfold tlen at h
  split at h
  · rename_i d
    split at h
    · rename_i ht
      obtain ⟨s, hs, h⟩ := run_get h
      have hs := D.str?_some hs
      subst hs
      simp only [lenOf, ht, if_true]
      exact h
    · split at h
      · rename_i h0 ht
        obtain ⟨p, hp, h⟩ := run_get h
        have hp := D.list?_some hp
        subst hp
        simp only [lenOf, ht, if_true]
        exact h
      · cases h
  · rw [Tr.run_of] at h; exact h

theorem tminmaxGo_ok {isMax : Bool} {k : IntKind} : ∀ (l : List AV) (a : Int) (r : AV), (tminmaxGo isMax k a l).run = some r → minmaxGo isMax k a l = some r
  | [], a, r, h => h
  | x :: l, a, r, h => by
    cases x <;> simp only [tminmaxGo] at h <;> first
      | (obtain ⟨b, hb, h⟩ := run_get h
         obtain ⟨k', rfl⟩ := D.anyInt?_some hb
         simp only [minmaxGo]
         exact tminmaxGo_ok l _ r h)
      | cases h

theorem tminmax_ok {isMax : Bool} {l : List AV} {r : AV} (h : (tminmax isMax l).run = some r) : minmax isMax l = some r := by
  unfold tminmax at h
  split at h
  · rename_i d l
    obtain ⟨p, hp, h⟩ := run_get h
    have : d = .int p.1 p.2 := by
      cases d <;> simp_all [D.intK?]
      rw [← hp]; exact ⟨rfl, rfl⟩
    subst this
    simp only [minmax]
    exact tminmaxGo_ok _ _ _ h
  · cases h

theorem isU8_ok {T : Tab} {e : TypeId} (h : isU8 T e = true) : kindT T e = some (.int .u8) := by
  unfold isU8 at h
  split at h
  · assumption
  · cases h

theorem tconvert_ok {T : Tab} {m : Mem} {fresh : Nat} {src dst : TypeId} {x : AV} {r : AV × Mem} (h : (tconvert T m fresh src dst x).run = some r) : convert T m fresh src dst x = some r := by
  unfold tconvert at h
  unfold convert convertP
  split at h
  · cases h
  · rename_i ks hks
    simp only [hks]
    split at h
    · rename_i k hd
      simp only [hd]
      split at h
      · obtain ⟨n, hn, h2⟩ := run_get h
        obtain ⟨k', hk'⟩ := D.anyInt?_some hn
        subst hk'
        simpa [Tr.run, putE] using h2
      · cases h
    · rename_i hd
      simp only [hd]
      split at h
      · split at h
        · obtain ⟨s, hs, h2⟩ := run_get h
          have hs := D.str?_some hs
          subst hs
          simpa [Tr.run, putE] using h2
        · cases h
      · rename_i e
        split at h
        · rename_i he
          have he := isU8_ok he
          simp only [he]
          split at h
          · obtain ⟨p, hp, h2⟩ := run_get h
            have hp := D.list?_some hp
            subst hp
            obtain ⟨l, hl, h3⟩ := run_get h2
            obtain ⟨h0, h4⟩ := Tr.run_req h3
            simp only [Bool.or_eq_true, decide_eq_true_eq] at h0
            simp only [rd, hl, if_pos h0]
            simpa [Tr.run, putE] using h4
          · rename_i x hx
            split at h
            · rename_i b sz xs hr
              obtain ⟨l, hl, h⟩ := run_get h
              obtain ⟨h0, h⟩ := Tr.run_req h
              simp only [Bool.or_eq_true, decide_eq_true_eq] at h0
              simp only [hr, hl, if_pos h0]
              split
              · exact absurd rfl (hx _)
              · simpa [Tr.run, putE] using h
            · cases h
        · cases h
      · cases h
    · rename_i e hd
      simp only [hd]
      split at h
      · split at h
        · rename_i he
          have he := isU8_ok he
          obtain ⟨s, hs, h2⟩ := run_get h
          have hs := D.str?_some hs
          subst hs
          obtain ⟨h0, h3⟩ := Tr.run_req h2
          simp only [decide_eq_true_eq] at h0
          simp only [he, if_pos h0]
          simpa [Tr.run, putE] using h3
        · cases h
      · cases h
    · cases h

theorem teqLeaf_ok {k : TK} {xs ys : List AV} {b : Bool} (h : (teqLeaf k xs ys).run = some b) : eqLeaf k xs ys = some b := by
  unfold teqLeaf at h
  split at h
  · split at h
    · split at h
      · obtain ⟨a, ha, h2⟩ := run_get h
        obtain ⟨c, hc, h3⟩ := run_get h2
        have ha := D.bool?_some ha
        have hc := D.bool?_some hc
        subst ha hc
        exact h3
      · obtain ⟨a, ha, h2⟩ := run_get h
        obtain ⟨c, hc, h3⟩ := run_get h2
        have ha := D.int?_some ha
        have hc := D.int?_some hc
        subst ha hc
        simp only [eqLeaf, if_true]
        exact h3
      · obtain ⟨a, ha, h2⟩ := run_get h
        obtain ⟨c, hc, h3⟩ := run_get h2
        have ha := D.str?_some ha
        have hc := D.str?_some hc
        subst ha hc
        exact h3
      · cases h
    · cases h
  · cases h

theorem teqFs_ok {T : Tab} {teq : TypeId → List AV → List AV → Tr Bool} {eq : TypeId → List AV → List AV → Option Bool} (he : ∀ t xs ys b, (teq t xs ys).run = some b → eq t xs ys = some b) {xs ys : List AV} :
    ∀ (fs : List (Nat × TypeId)) (b : Bool), (teqFs T teq xs ys fs).run = some b → eqFs T eq xs ys fs = some b
  | [], b, h => h
  | (off, ft) :: r, b, h => by
    simp only [teqFs] at h
    simp only [eqFs]
    split at h
    · rename_i sz hs
      simp only [hs]
      split at h
      · rename_i hc
        rw [if_pos hc]
        obtain ⟨c, h1, h⟩ := run_bindS h
        obtain ⟨d, h2, h⟩ := run_bindS h
        simp only [he _ _ _ _ h1, teqFs_ok he r _ h2]
        exact h
      · cases h
    · cases h

theorem teqIs_ok {teq : List AV → List AV → Tr Bool} {eq : List AV → List AV → Option Bool} (he : ∀ xs ys b, (teq xs ys).run = some b → eq xs ys = some b) {sz : Nat} {xs ys : List AV} :
    ∀ (n i : Nat) (b : Bool), (teqIs teq sz xs ys i n).run = some b → eqIs eq sz xs ys i n = some b
  | 0, i, b, h => h
  | n + 1, i, b, h => by
    simp only [teqIs] at h
    simp only [eqIs]
    split at h
    · rename_i hc
      rw [if_pos hc]
      obtain ⟨c, h1, h⟩ := run_bindS h
      obtain ⟨d, h2, h⟩ := run_bindS h
      simp only [he _ _ _ h1, teqIs_ok he n _ _ h2]
      exact h
    · cases h

theorem teqv_ok {T : Tab} : ∀ (n : Nat) (t : TypeId) (xs ys : List AV) (b : Bool), (teqv T n t xs ys).run = some b → eqv T n t xs ys = some b
  | 0, t, xs, ys, b, h => by cases h
  | n + 1, t, xs, ys, b, h => by
    simp only [teqv] at h
    simp only [eqv]
    split at h
    · rename_i ti ht
      simp only [ht]
      split at h
      · rename_i hc
        rw [if_pos hc]
        split at h
        · rename_i fs hk
          simp only [hk]
          exact teqFs_ok (teqv_ok n) _ _ h
        · rename_i len e hk
          simp only [hk]
          split at h
          · rename_i sz hs
            simp only [hs]
            exact teqIs_ok (teqv_ok n e) _ _ _ h
          · cases h
        · rename_i k h1 h2
          split
          · rename_i fs hk; exact absurd hk (h1 fs)
          · rename_i len e hk; exact absurd hk (h2 len e)
          · exact teqLeaf_ok h
      · cases h
    · cases h

theorem tbin2_ok {T : Tab} {op : BinOp} {t : TypeId} {x y r : AV} {lit : Bool} (h : (tbin2 T op t x y lit).run = some r) : bin T op t x y lit = some r := by
  unfold tbin2 at h
  split at h
  · split at h
    · split at h
      · rename_i k hk
        split at h
        · rename_i ha
          obtain ⟨b, h1, h⟩ := run_bindS h
          simp only [bin, hk, ha, if_true, teqv_ok _ _ _ _ _ h1]
          cases op <;> first | exact h | cases h
        · cases h
      · cases h
    · cases h
  · exact tbin_ok h

theorem tmakeSlice_ok {T : Tab} {m : Mem} {fresh : Nat} {t : TypeId} {l c : AV} {r : AV × Mem} (h : (tmakeSlice T m fresh t l c).run = some r) : makeSlice T m fresh t l c = some r := by
  unfold tmakeSlice at h
  split at h
  · obtain ⟨l', hl, h⟩ := run_get h
    obtain ⟨c', hc, h⟩ := run_get h
    obtain ⟨k1, rfl⟩ := D.anyInt?_some hl
    obtain ⟨k2, rfl⟩ := D.anyInt?_some hc
    simp only [makeSlice]
    split at h
    · rename_i ti ht
      simp only [ht]
      split at h
      · rename_i e hk
        simp only [hk]
        split at h
        · rename_i te hte
          simp only [hte]
          split at h
          · rename_i z m1 hz
            simp only [hz]
            split at h
            · rename_i h2
              obtain ⟨h3, h⟩ := Tr.run_req h
              simp only [Bool.and_eq_true, decide_eq_true_eq] at h3
              rw [if_pos ⟨h3.1, h3.2.1, h3.2.2.1, h3.2.2.2, h2.1, h2.2⟩]
              exact h
            · cases h
          · cases h
        · cases h
      · cases h
    · cases h
  · cases h

theorem wholeB_iff {f : Bool} {off len n : Nat} : wholeB f off len n = true ↔ (off = 0 ∧ len = n ∧ f = false) := by
  unfold wholeB
  simp only [Bool.and_eq_true, Bool.not_eq_true', decide_eq_true_eq]
  exact ⟨fun ⟨a, b, c⟩ => ⟨b, c, a⟩, fun ⟨a, b, c⟩ => ⟨c, a, b⟩⟩

theorem wholeB_false {f : Bool} {off len n : Nat} (h : wholeB f off len n = false) : ¬ (off = 0 ∧ len = n ∧ f = false) := by
  intro hc
  rw [wholeB_iff.2 hc] at h
  cases h

theorem tback_ok {m : Mem} {a : AV} {r : AV × Mem} (h : (tback m a).run = some r) : back m a = some r := by
  unfold tback at h
  unfold back
  split at h
  · split at h
    all_goals
      first
        | (rename_i s xs hm
           simp only [hm]
           split at h
           · rename_i hs
             rcases run_ask h with ⟨h1, h2⟩ | ⟨h1, h2⟩
             · rw [if_pos ⟨hs, wholeB_iff.1 h1⟩]; exact h2
             · rw [if_neg fun hc => wholeB_false h1 hc.2]; rw [Tr.run_of] at h2; exact h2
           · rename_i hs
             rw [if_neg fun hc => hs hc.1]; rw [Tr.run_of] at h; exact h)
        | (rename_i h1 h2
           rw [Tr.run_of] at h
           dsimp only
           split
           · rename_i hm; exact (h1 _ _ hm).elim
           · rename_i hm; exact (h2 _ _ hm).elim
           · exact h)
  · rename_i hx
    rw [Tr.run_of] at h
    split
    · exact absurd rfl (hx _ _ _ _ _)
    · exact h

theorem tgiveSh_ok {m : Mem} {f : Bool} {i sz off len : Nat} {r : AV × Mem} (h : (tgiveSh m f i sz off len).run = some r) : giveSh m f i sz off len = some r := by
  unfold tgiveSh at h
  unfold giveSh
  split at h
  · rename_i md s xs hm
    simp only [hm]
    split at h
    · rename_i hs
      rcases run_ask h with ⟨h1, h2⟩ | ⟨h1, h2⟩
      · obtain ⟨q1, q2, q3⟩ := wholeB_iff.1 h1
        rw [if_pos ⟨hs.1, q1, q2, hs.2, q3⟩]; exact h2
      · rw [if_neg fun hc => wholeB_false h1 ⟨hc.2.1, hc.2.2.1, hc.2.2.2.2⟩]; rw [Tr.run_of] at h2; exact h2
    · rename_i hs
      rw [if_neg fun hc => hs ⟨hc.1, hc.2.2.2.1⟩]; rw [Tr.run_of] at h; exact h
  · cases h

theorem tgiveL_ok {tf : Mem → Nat → Nat → AV → Tr (AV × Mem)} {f : Mem → Nat → Nat → AV → Option (AV × Mem)} (hf : ∀ m g j a r, (tf m g j a).run = some r → f m g j a = some r) :
    ∀ (l : List AV) (m : Mem) (g j : Nat) (r : List AV × Mem), (tgiveL tf m g j l).run = some r → giveL f m g j l = some r
  | [], m, g, j, r, h => h
  | a :: l, m, g, j, r, h => by
    simp only [tgiveL] at h
    obtain ⟨p, h1, h⟩ := run_bindS h
    obtain ⟨q, h2, h⟩ := run_bindS h
    simp only [giveL, hf _ _ _ _ _ h1, tgiveL_ok hf l _ _ _ _ h2]
    exact h

theorem tgivePtr_ok {tf : Mem → Nat → Nat → AV → Tr (AV × Mem)} {f : Mem → Nat → Nat → AV → Option (AV × Mem)} (hf : ∀ m g j a r, (tf m g j a).run = some r → f m g j a = some r) {m : Mem} {q : Ref} {off : Nat} {r : AV × Mem}
    (h : (tgivePtr tf m q off).run = some r) : givePtr f m q off = some r := by
  unfold tgivePtr at h
  unfold givePtr
  split at h
  · rename_i g hg
    simp only [hg]
    exact h
  · rename_i i hi
    simp only [hi]
    split at h
    · rename_i cs hm
      simp only [hm]
      obtain ⟨p, h1, h⟩ := run_bindS h
      simp only [tgiveL_ok hf _ _ _ _ _ h1]
      exact h
    · cases h

theorem tgive_ok : ∀ (n : Nat) (m : Mem) (g j : Nat) (a : AV) (r : AV × Mem), (tgive n m g j a).run = some r → give n m g j a = some r
  | 0, m, g, j, a, r, h => by
    unfold tgive at h
    unfold give
    split at h
    · exact tgiveSh_ok h
    · rename_i hx
      rw [Tr.run_of] at h
      split
      · exact absurd rfl (hx _ _ _ _ _)
      · exact h
  | n + 1, m, g, j, a, r, h => by
    unfold tgive at h
    unfold give
    split at h
    · exact tgiveSh_ok h
    · exact tgivePtr_ok (tgive_ok n) h
    · rename_i hx hy
      rw [Tr.run_of] at h
      split
      · exact absurd rfl (hx _ _ _ _ _)
      · exact absurd rfl (hy _ _)
      · exact h

theorem tstore_ok {T : Tab} {m m' : Mem} {t : TypeId} {a x : AV} (h : (tstore T m t a x).run = some m') : store T m t a x = some m' := by
  unfold tstore at h
  split at h
  · rename_i ti ht
    split at h
    · rename_i xs m0 hk
      split at h
      · rename_i hc
        split at h
        · split at h
          · rename_i i hi
            split at h
            · rename_i cs hm
              obtain ⟨h0, h2⟩ := Tr.run_req h
              simp only [decide_eq_true_eq] at h0
              simp only [store, ht, hk, if_pos hc, hi, hm, if_pos h0]
              rw [← putCells_eq h0 hc.1]
              exact h2
            · cases h
          · rename_i g hg
            obtain ⟨p, h1, h⟩ := run_bindS h
            have h1 := tgiveL_ok (tgive_ok 2) _ _ _ _ _ h1
            simp only [store, ht, hk, if_pos hc, hg, h1]
            split at h
            · rename_i cs hm
              obtain ⟨h0, h2⟩ := Tr.run_req h
              simp only [Bool.and_eq_true, decide_eq_true_eq] at h0
              simp only [hm, if_pos h0.1]
              rw [← putCells_eq h0.1 h0.2]
              exact h2
            · cases h
        · simp only [store, ht, hk, if_pos hc]
          split at h
          · rename_i ds m1 hs
            simp only [hs]
            split at h
            · rename_i sz' rs hm
              simp only [hm]
              split at h
              · rename_i hz
                rw [if_pos hz]
                obtain ⟨e, he, h⟩ := run_get h
                obtain ⟨h0, h⟩ := Tr.run_req h
                simp only [decide_eq_true_eq] at h0
                simp only [he, if_pos h0]
                exact h
              · cases h
            · cases h
          · cases h
        · simp only [store, ht, hk, if_pos hc]
          split at h
          · rename_i ds m1 hs
            simp only [hs]
            split at h
            · rename_i sz' rs hm
              simp only [hm]
              split at h
              · rename_i hz
                rw [if_pos hz]
                obtain ⟨e, he, h⟩ := run_get h
                obtain ⟨h0, h⟩ := Tr.run_req h
                simp only [decide_eq_true_eq] at h0
                simp only [he, if_pos h0]
                exact h
              · cases h
            · cases h
          · cases h
        · cases h
      · cases h
    · cases h
  · cases h

theorem tpassC_ok {m : Mem} {a : AV} {r : AV × Mem} (h : (tpassC m a).run = some r) : passC m a = some r := by
  unfold tpassC at h
  unfold passC
  split at h
  · exact tgive_ok _ _ _ _ _ _ h
  · rw [Tr.run_of] at h; exact h

theorem tpassCL_ok : ∀ (l : List AV) (m : Mem) (r : List AV × Mem), (tpassCL m l).run = some r → mapS passC m l = some r
  | [], m, r, h => h
  | a :: l, m, r, h => by
    simp only [tpassCL] at h
    obtain ⟨p, h1, h⟩ := run_bindS h
    obtain ⟨q, h2, h⟩ := run_bindS h
    simp only [mapS, tpassC_ok h1, tpassCL_ok l _ _ h2]
    exact h

theorem tpass_ok {m : Mem} {a : AV} {r : AV × Mem} (h : (tpass m a).run = some r) : pass m a = some r := by
  unfold tpass at h
  unfold pass
  split at h
  · exact tgive_ok _ _ _ _ _ _ h
  · obtain ⟨p, h1, h⟩ := run_bindS h
    simp only [tpassCL_ok _ _ _ h1]
    exact h
  · obtain ⟨p, h1, h⟩ := run_bindS h
    simp only [tpassCL_ok _ _ _ h1]
    exact h
  · rw [Tr.run_of] at h; exact h

theorem tbackP_ok {m : Mem} {a : AV} {r : AV × Mem} (h : (tbackP m a).run = some r) : back m a = some r := by
  unfold tbackP at h
  split at h
  · exact tpass_ok h
  · exact tpass_ok h
  · exact tpass_ok h
  · exact tback_ok h

theorem tpassT_ok {m : Mem} {a : AV} {r : AV × Mem} (h : (tpassT m a).run = some r) : passT m a = some r := by
  unfold tpassT at h
  split at h
  · simp only [passT, tpass_ok h]
  · simp only [passT, tpass_ok h]
  · rw [Tr.run_of] at h; exact h

theorem tpassTL_ok : ∀ (l : List AV) (m : Mem) (r : List AV × Mem), (tpassTL m l).run = some r → mapS passT m l = some r
  | [], m, r, h => h
  | a :: l, m, r, h => by
    simp only [tpassTL] at h
    obtain ⟨p, h1, h⟩ := run_bindS h
    obtain ⟨q, h2, h⟩ := run_bindS h
    simp only [mapS, tpassT_ok h1, tpassTL_ok l _ _ h2]
    exact h

theorem tpassL_ok : ∀ (l : List AV) (m : Mem) (r : List AV × Mem), (tpassL m l).run = some r → mapS pass m l = some r
  | [], m, r, h => h
  | a :: l, m, r, h => by
    simp only [tpassL] at h
    obtain ⟨p, h1, h⟩ := run_bindS h
    obtain ⟨q, h2, h⟩ := run_bindS h
    simp only [mapS, tpass_ok h1, tpassL_ok l _ _ h2]
    exact h

theorem tcall2_ok {T : Tab} {orc : TOrc} {oo : Orc} (hO : ∀ f xs G r, (orc f xs G).run = some r → oo f xs G = some r) {m : Mem} {fresh : Nat} {v : Operand → AV} {c : Call} {r : AV × Mem} (h : (tcall2 T orc m fresh v c).run = some r) :
    call T oo m fresh v c = some r := by
  unfold tcall2 at h
  unfold call
  split at h
  · rename_i f hc
    simp only [hc]
    split at h
    · rename_i g caps hv
      simp only [hv]
      split at h
      case isFalse => cases h
      rename_i hlt
      rw [if_pos hlt]
      unfold tcallF2 at h
      unfold callF
      obtain ⟨q, h0, h⟩ := run_bindS h
      obtain ⟨p, h1, h2⟩ := run_bindS h
      rw [Tr.run_of] at h2
      simp only [tpassL_ok _ _ _ h0, hO _ _ _ _ h1]
      exact h2
    · rename_i g hv
      simp only [hv]
      unfold tcallF2 at h
      unfold callF
      obtain ⟨q, h0, h⟩ := run_bindS h
      obtain ⟨p, h1, h2⟩ := run_bindS h
      rw [Tr.run_of] at h2
      simp only [tpassL_ok _ _ _ h0, hO _ _ _ _ h1]
      exact h2
    · cases h
  · rename_i hc
    simp only [hc]
    split at h
    · rename_i x y t t2 h1 h2
      simp only [h1, h2]
      exact tappend_ok h
    · cases h
  · rename_i hc
    simp only [hc]
    split at h
    · rename_i x t h1 h2
      simp only [h1, h2]
      exact keepM_ok h fun a ha => tlen_ok ha
    · cases h
  · rename_i hc
    simp only [hc]
    exact keepM_ok h fun a ha => tminmax_ok ha
  · rename_i hc
    simp only [hc]
    exact keepM_ok h fun a ha => tminmax_ok ha
  · cases h

theorem tsem2_ok {T : Tab} {orc : TOrc} {oo : Orc} (hO : ∀ f xs G r, (orc f xs G).run = some r → oo f xs G = some r) {o : Oper} {m : Mem} {fresh : Nat} {v : Operand → AV} {r : AV × Mem} (h : (tsem2 T orc o fresh v m).run = some r) :
    sem T oo o fresh v m = some r := by
  unfold tsem2 at h
  cases ho : o.op <;> simp only [ho] at h <;> simp only [sem, ho] <;> first
    | exact keepM_ok h fun a ha => tpick_ok ha
    | exact keepM_ok h fun a ha => tload2_ok ha
    | (obtain ⟨m1, h1, h⟩ := run_bindS h
       rw [tstore_ok h1]; exact h)
    | exact keepM_ok h fun a ha => tbin2_ok ha
    | exact keepM_ok h fun a ha => tun_ok ha
    | exact tconvert_ok h
    | exact tmakeSlice_ok h
    | exact keepM_ok h fun a ha => tslice_ok ha
    | exact keepM_ok h fun a ha => tindexAddr2_ok ha
    | exact keepM_ok h fun a ha => tindex2_ok ha
    | exact tcall2_ok hO h
    | (rw [Tr.run_of] at h; simpa only [sem, ho] using h)
    | (rw [Tr.run_of] at h; simp only [sem, ho] at h; exact h)
    | (rename_i fn _ _; cases fn <;> (rw [Tr.run_of] at h; simp only [sem, ho] at h ⊢; exact h))

theorem set_same {α : Type} : ∀ {l : List α} {i : Nat} {a : α}, l[i]? = some a → l.set i a = l
  | [], i, a, h => by simp at h
  | x :: l, 0, a, h => by
    simp only [List.getElem?_cons_zero, Option.some.injEq] at h
    simp only [List.set_cons_zero, h]
  | x :: l, i + 1, a, h => by
    simp only [List.getElem?_cons_succ] at h
    simp only [List.set_cons_succ, set_same h]

theorem tgoes2_ok {ops : List Oper} {tmps : List AV} {o : Oper} {q : Bool × List AV} (h : (tgoes2 ops tmps o).run = some q) : goes ops tmps o = some q.1 ∧ q.2 = tmps := by
  unfold tgoes2 at h
  unfold goes
  split at h
  · rename_i hg
    simp only [hg]
    simp only [Tr.run, Option.some.injEq] at h
    subst h
    exact ⟨rfl, rfl⟩
  · rename_i j want hg
    simp only [hg]
    split at h
    · rename_i d hd
      simp only [hd]
      split at h
      · rename_i v hv
        obtain ⟨c, hc, h2⟩ := run_get h
        have hc := D.bool?_some hc
        subst hc
        simp only [hv]
        rcases run_ask h2 with ⟨q1, q2⟩ | ⟨q1, q2⟩
        · simp only [Tr.run, Option.some.injEq] at q2
          subst q1 q2
          exact ⟨by cases want <;> rfl, set_same hv⟩
        · simp only [Tr.run, Option.some.injEq] at q2
          subst q1 q2
          exact ⟨by cases want <;> rfl, set_same hv⟩
      · rename_i hv
        simp only [hv]
        simp only [Tr.run, Option.some.injEq] at h
        subst h
        exact ⟨rfl, rfl⟩
      · cases h
    · cases h

theorem learn_same {st : St} {c : Operand} {b : Bool} (h : opval st.tmps c = .dat (.bool b)) : st.learn c b = st := by
  unfold St.learn
  split
  · rename_i t
    simp only [opval, List.getD_eq_getElem?_getD] at h
    cases ht : st.tmps[t]? with
    | none => rw [ht] at h; cases h
    | some a =>
      rw [ht] at h
      simp only [Option.getD_some] at h
      subst h
      rw [set_same ht]
  · rfl

theorem tsemX_ok {d : Option (List Nat)} {T : Tab} {orc : TOrc} {oo : Orc} (hO : ∀ f xs G r, (orc f xs G).run = some r → oo f xs G = some r) {o : Oper} {m : Mem} {fresh : Nat} {v : Operand → AV} {r : AV × Mem} (h : (tsemX d T orc o fresh v m).run = some r) :
    semX d T oo o fresh v m = some r := by
  cases d with
  | none => exact tsem2_ok hO h
  | some mx =>
    simp only [tsemX] at h
    simp only [semX, semD]
    split at h
    · rename_i x ho
      simp only [ho]
      simpa [Tr.run] using h
    · rename_i hne
      split
      · rename_i x ho
        exact absurd ho (hne x)
      · exact tsem2_ok hO h

theorem tevOp2_ok {T : Tab} {orc : TOrc} {oo : Orc} (hO : ∀ f xs G r, (orc f xs G).run = some r → oo f xs G = some r) {d : Option (List Nat)} {ops : List Oper} {base i : Nat} {st st1 : St} (h : (tevOp2 T orc d ops base i st).run = some st1) :
    evOp T oo d ops base i st = some st1 := by
  unfold tevOp2 at h
  unfold evOp
  split at h
  · rename_i ho
    simp only [ho]
    simpa [Tr.run] using h
  · rename_i o ho
    simp only [ho]
    obtain ⟨q, hb0, h2⟩ := run_bindS h
    obtain ⟨hb, hq⟩ := tgoes2_ok hb0
    obtain ⟨b, ts⟩ := q
    change goes ops st.tmps o = some b at hb
    change ts = st.tmps at hq
    subst hq
    simp only [hb]
    cases b with
    | true =>
      dsimp only at h2
      split at h2
      · cases h2
      · rename_i hd
        rw [if_neg hd]
        obtain ⟨p, hp, h3⟩ := run_bindS h2
        obtain ⟨hg, h4⟩ := Tr.run_req h3
        simp only [tsemX_ok hO hp, hg, if_true]
        simpa [Tr.run] using h4
    | false => simpa [Tr.run] using h2

theorem tevOps2_ok {T : Tab} {orc : TOrc} {oo : Orc} (hO : ∀ f xs G r, (orc f xs G).run = some r → oo f xs G = some r) {d : Option (List Nat)} {ops : List Oper} {base : Nat} : ∀ (l : List Nat) (st st1 : St), (tevOps2 T orc d ops base l st).run = some st1 →
    evOps T oo d ops base l st = some st1
  | [], st, st1, h => by simpa [tevOps2, Tr.run, evOps] using h
  | i :: r, st, st1, h => by
    simp only [tevOps2] at h
    obtain ⟨s, h1, h2⟩ := run_bindS h
    simp only [evOps, tevOp2_ok hO h1]
    exact tevOps2_ok hO r s st1 h2

/-! ### more rounds do no harm -/

theorem loopN_mono {f g : St → Option (Ex × St)} (hfg : ∀ s r, f s = some r → g s = some r) : ∀ (n m : Nat) (s : St) (r : Ex × St), n ≤ m → loopN n f s = some r → loopN m g s = some r
  | 0, m, s, r, _, h => by cases h
  | n + 1, 0, s, r, hm, h => by omega
  | n + 1, m + 1, s, r, hm, h => by
    simp only [loopN] at h ⊢
    cases hf : f s with
    | none => rw [hf] at h; cases h
    | some p =>
      rw [hf] at h
      rw [hfg s p hf]
      obtain ⟨ex, s1⟩ := p
      cases ex with
      | norm => exact loopN_mono hfg n m s1 r (by omega) h
      | exit j => exact h
      | goto l => exact h
      | ret => exact h

theorem jumpsN_mono {f g : Nat → St → Option (Ex × St)} (hfg : ∀ l s r, f l s = some r → g l s = some r) : ∀ (n m : Nat) (l : Nat) (s : St) (r : Ex × St), n ≤ m → jumpsN n f l s = some r → jumpsN m g l s = some r
  | 0, m, l, s, r, _, h => by cases h
  | n + 1, 0, l, s, r, hm, h => by omega
  | n + 1, m + 1, l, s, r, hm, h => by
    simp only [jumpsN] at h ⊢
    cases hf : f l s with
    | none => rw [hf] at h; cases h
    | some p =>
      rw [hf] at h
      rw [hfg l s p hf]
      obtain ⟨ex, s1⟩ := p
      cases ex with
      | goto l' => exact jumpsN_mono hfg n m l' s1 r (by omega) h
      | exit j => exact h
      | norm => exact h
      | ret => exact h

theorem exec_jump_mono {T : Tab} {oo : Orc} {K K' : Nat} {H : Nat → List Nat} (hK : K ≤ K') : ∀ (c : Code), (∀ (st : St) (r : Ex × St), exec T oo K H c st = some r → exec T oo K' H c st = some r) ∧
    (∀ (l : Nat) (st : St) (r : Ex × St), jumpK T oo K H l c st = some r → jumpK T oo K' H l c st = some r) := by
  intro c
  induction c with
  | seq a b iha ihb =>
    constructor
    · intro st r h
      simp only [exec] at h ⊢
      cases ha : exec T oo K H a st with
      | none => rw [ha] at h; cases h
      | some p =>
        rw [ha] at h
        rw [iha.1 _ _ ha]
        obtain ⟨ex, s1⟩ := p
        cases ex with
        | norm => exact ihb.1 _ _ h
        | exit j => exact h
        | goto l => exact h
        | ret => exact h
    · intro l st r h
      simp only [jumpK] at h ⊢
      split at h
      · rename_i hl
        rw [if_pos hl]
        cases ha : jumpK T oo K H l a st with
        | none => rw [ha] at h; cases h
        | some p =>
          rw [ha] at h
          rw [iha.2 _ _ _ ha]
          obtain ⟨ex, s1⟩ := p
          cases ex with
          | norm => exact ihb.1 _ _ h
          | exit j => exact h
          | goto l => exact h
          | ret => exact h
      · rename_i hl
        rw [if_neg hl]
        exact ihb.2 _ _ _ h
  | cond o a b iha ihb =>
    refine ⟨?_, fun l st r h => by simp [jumpK] at h⟩
    intro st r h
    simp only [exec] at h ⊢
    split at h
    · exact iha.1 _ _ h
    · exact ihb.1 _ _ h
    · cases h
  | block id b ih =>
    refine ⟨?_, fun l st r h => by simp [jumpK] at h⟩
    intro st r h
    simp only [exec] at h ⊢
    cases ha : exec T oo K H b st with
    | none => rw [ha] at h; cases h
    | some p => rw [ha] at h; rw [ih.1 _ _ ha]; exact h
  | loop b ih =>
    refine ⟨?_, fun l st r h => by simp [jumpK] at h⟩
    intro st r h
    simp only [exec] at h ⊢
    obtain ⟨p, h1, h2⟩ := Option.map_eq_some_iff.1 h
    rw [loopN_mono (fun s r h => ih.1 _ _ h) K K' st p hK h1]
    simpa using h2
  | label l' =>
    refine ⟨fun st r h => by simpa only [exec] using h, fun l st r h => by simpa only [jumpK] using h⟩
  | scope b ih =>
    refine ⟨?_, fun l st r h => by simp [jumpK] at h⟩
    intro st r h
    simp only [exec] at h ⊢
    cases ha : exec T oo K H b st with
    | none => rw [ha] at h; cases h
    | some p =>
      rw [ha] at h
      rw [ih.1 _ _ ha]
      obtain ⟨ex, s1⟩ := p
      cases ex with
      | norm => exact h
      | exit j => exact h
      | ret => exact h
      | goto l => exact jumpsN_mono (fun l s r h => ih.2 l _ r h) K K' l s1 r hK h
  | _ => refine ⟨fun st r h => by simpa only [exec] using h, fun l st r h => by simp [jumpK] at h⟩

theorem exec_mono {T : Tab} {oo : Orc} {K K' : Nat} {H : Nat → List Nat} (hK : K ≤ K') (c : Code) (st : St) (r : Ex × St) (h : exec T oo K H c st = some r) : exec T oo K' H c st = some r := (exec_jump_mono hK c).1 st r h

theorem jump_mono {T : Tab} {oo : Orc} {K K' : Nat} {H : Nat → List Nat} (hK : K ≤ K') (l : Nat) (c : Code) (st : St) (r : Ex × St) (h : jumpK T oo K H l c st = some r) : jumpK T oo K' H l c st = some r := (exec_jump_mono hK c).2 l st r h

/-- the loops' specs are right -/
def LoOk2 (T : Tab) (oo : Orc) (H : Nat → List Nat) (lo : Nat → St → Tr (Ex × St)) : Code → Prop
  | .seq a b => LoOk2 T oo H lo a ∧ LoOk2 T oo H lo b
  | .cond _ a b => LoOk2 T oo H lo a ∧ LoOk2 T oo H lo b
  | .block _ b => LoOk2 T oo H lo b
  | .scope b => LoOk2 T oo H lo b
  | .loop b => ∀ st r, (lo (firstRegion b) st).run = some r → ∃ K, exec T oo K H (.loop b) st = some r
  | _ => True

theorem LoOk2.no {T : Tab} {oo : Orc} {H : Nat → List Nat} : ∀ c, LoOk2 T oo H noLo c
  | .seq a b => ⟨LoOk2.no a, LoOk2.no b⟩
  | .cond _ a b => ⟨LoOk2.no a, LoOk2.no b⟩
  | .block _ b => LoOk2.no b
  | .scope b => LoOk2.no b
  | .loop b => fun st r h => by cases h
  | .skip => trivial
  | .region _ _ _ => trivial
  | .exit _ => trivial
  | .ret => trivial
  | .label _ => trivial
  | .goto _ => trivial
  | .rangeFunc .. => trivial
  | .refuse _ => trivial

theorem texec_jump_ok {T : Tab} {orc : TOrc} {oo : Orc} (hO : ∀ f xs G r, (orc f xs G).run = some r → oo f xs G = some r) {H : Nat → List Nat} {lo : Nat → St → Tr (Ex × St)} {ro : List Nat} (hro : H 3000000 = ro) : ∀ (c : Code), LoOk2 T oo H lo c →
    (∀ (st : St) (r : Ex × St), (texec2 T orc lo ro c st).run = some r → ∃ K, exec T oo K H c st = some r) ∧
    (∀ (l : Nat) (st : St) (r : Ex × St), (tjump T orc lo ro l c st).run = some r → ∃ K, jumpK T oo K H l c st = some r) := by
  intro c
  induction c with
  | skip => intro _; refine ⟨fun st r h => ⟨0, by simpa [texec2, exec, Tr.run] using h⟩, fun l st r h => by simp [tjump, Tr.run] at h⟩
  | exit id => intro _; refine ⟨fun st r h => ⟨0, by simpa [texec2, exec, Tr.run] using h⟩, fun l st r h => by simp [tjump, Tr.run] at h⟩
  | ret => intro _; refine ⟨fun st r h => ⟨0, by simpa [texec2, exec, Tr.run] using h⟩, fun l st r h => by simp [tjump, Tr.run] at h⟩
  | goto l => intro _; refine ⟨fun st r h => ⟨0, by simpa [texec2, exec, Tr.run] using h⟩, fun l st r h => by simp [tjump, Tr.run] at h⟩
  | label l' =>
    intro _
    refine ⟨fun st r h => ⟨0, by simpa [texec2, exec, Tr.run] using h⟩, fun l st r h => ⟨0, ?_⟩⟩
    simp only [tjump] at h
    simp only [jumpK]
    split at h
    · rename_i hl; rw [if_pos hl]; exact h
    · cases h
  | region id ops draw =>
    intro _
    refine ⟨fun st r h => ⟨0, ?_⟩, fun l st r h => by simp [tjump, Tr.run] at h⟩
    simp only [texec2, forceL_eq] at h
    simp only [exec, regionK, hro, forceO_eq]
    split at h
    · cases h
    · rename_i hd
      rw [if_neg hd]
      obtain ⟨s, h1, h2⟩ := run_bindS h
      rw [tevOps2_ok hO _ _ _ h1]
      simpa [Tr.run] using h2
  | loop b ih =>
    intro hl
    refine ⟨fun st r h => ?_, fun l st r h => by simp [tjump, Tr.run] at h⟩
    simp only [texec2] at h
    exact hl st r h
  | seq a b iha ihb =>
    intro hl
    have ha := iha hl.1
    have hb := ihb hl.2
    constructor
    · intro st r h
      simp only [texec2] at h
      obtain ⟨p, h1, h2⟩ := run_bindS h
      obtain ⟨K1, e1⟩ := ha.1 _ _ h1
      obtain ⟨ex, s⟩ := p
      cases ex with
      | norm =>
        obtain ⟨K2, e2⟩ := hb.1 _ _ h2
        refine ⟨max K1 K2, ?_⟩
        simp only [exec, exec_mono (Nat.le_max_left K1 K2) _ _ _ e1]
        exact exec_mono (Nat.le_max_right K1 K2) _ _ _ e2
      | exit id => exact ⟨K1, by simp only [exec, e1]; simpa [Tr.run] using h2⟩
      | goto id => exact ⟨K1, by simp only [exec, e1]; simpa [Tr.run] using h2⟩
      | ret => exact ⟨K1, by simp only [exec, e1]; simpa [Tr.run] using h2⟩
    · intro l st r h
      simp only [tjump] at h
      split at h
      · rename_i hf
        obtain ⟨p, h1, h2⟩ := run_bindS h
        obtain ⟨K1, e1⟩ := ha.2 _ _ _ h1
        obtain ⟨ex, s⟩ := p
        cases ex with
        | norm =>
          obtain ⟨K2, e2⟩ := hb.1 _ _ h2
          refine ⟨max K1 K2, ?_⟩
          simp only [jumpK, if_pos hf, jump_mono (Nat.le_max_left K1 K2) _ _ _ _ e1]
          exact exec_mono (Nat.le_max_right K1 K2) _ _ _ e2
        | exit id => exact ⟨K1, by simp only [jumpK, if_pos hf, e1]; simpa [Tr.run] using h2⟩
        | goto id => exact ⟨K1, by simp only [jumpK, if_pos hf, e1]; simpa [Tr.run] using h2⟩
        | ret => exact ⟨K1, by simp only [jumpK, if_pos hf, e1]; simpa [Tr.run] using h2⟩
      · rename_i hf
        obtain ⟨K, e⟩ := hb.2 _ _ _ h
        exact ⟨K, by simp only [jumpK, if_neg hf, e]⟩
  | cond o a b iha ihb =>
    intro hl
    refine ⟨fun st r h => ?_, fun l st r h => by simp [tjump, Tr.run] at h⟩
    simp only [texec2] at h
    split at h
    · rename_i d hd
      obtain ⟨t, ht, h2⟩ := run_get h
      have ht := D.bool?_some ht
      subst ht
      rcases run_ask h2 with ⟨q1, q2⟩ | ⟨q1, q2⟩
      · subst q1
        rw [learn_same hd] at q2
        obtain ⟨K, e⟩ := (iha hl.1).1 _ _ q2
        exact ⟨K, by simp only [exec, hd]; exact e⟩
      · subst q1
        rw [learn_same hd] at q2
        obtain ⟨K, e⟩ := (ihb hl.2).1 _ _ q2
        exact ⟨K, by simp only [exec, hd]; exact e⟩
    · cases h
  | block id b ih =>
    intro hl
    refine ⟨fun st r h => ?_, fun l st r h => by simp [tjump, Tr.run] at h⟩
    simp only [texec2] at h
    obtain ⟨p, h1, h2⟩ := run_bindS h
    obtain ⟨K, e1⟩ := (ih hl).1 _ _ h1
    refine ⟨K, ?_⟩
    obtain ⟨ex, s⟩ := p
    cases ex with
    | norm => simp only [exec, e1]; simpa [Tr.run] using h2
    | ret => simp only [exec, e1]; simpa [Tr.run] using h2
    | goto l => simp only [exec, e1]; simpa [Tr.run] using h2
    | exit j =>
      simp only [exec, e1]
      simp only at h2
      split at h2
      · rename_i hj
        rw [if_pos hj]
        simpa [Tr.run] using h2
      · rename_i hj
        rw [if_neg hj]
        simpa [Tr.run] using h2
  | scope b ih =>
    intro hl
    refine ⟨fun st r h => ?_, fun l st r h => by simp [tjump, Tr.run] at h⟩
    simp only [texec2] at h
    obtain ⟨p, h1, h2⟩ := run_bindS h
    obtain ⟨K1, e1⟩ := (ih hl).1 _ _ h1
    obtain ⟨ex, s⟩ := p
    cases ex with
    | norm => exact ⟨K1, by simp only [exec, e1]; simpa [Tr.run] using h2⟩
    | exit j => exact ⟨K1, by simp only [exec, e1]; simpa [Tr.run] using h2⟩
    | ret => exact ⟨K1, by simp only [exec, e1]; simpa [Tr.run] using h2⟩
    | goto l =>
      by_cases hc : ro.contains (6000000 + l) = true
      · simp only [if_pos hc] at h2
        cases h2
      simp only [if_neg hc] at h2
      obtain ⟨q, h3, h4⟩ := run_bindS h2
      obtain ⟨K2, e2⟩ := (ih hl).2 _ _ _ h3
      have ht : tidyJ H l s = s := by unfold tidyJ; rw [hro, if_neg hc]
      refine ⟨max K1 K2 + 1, ?_⟩
      simp only [exec, jumpsN, ht, exec_mono (K' := max K1 K2 + 1) (by omega) _ _ _ e1, jump_mono (K' := max K1 K2 + 1) (by omega) _ _ _ _ e2]
      obtain ⟨ex, s2⟩ := q
      cases ex <;> first
        | (cases h4; done)
        | simpa [Tr.run] using h4
  | rangeFunc f ps asg body _ _ =>
    intro _
    refine ⟨fun st r h => ⟨0, ?_⟩, fun l st r h => by simp [tjump, Tr.run] at h⟩
    simp only [texec2] at h
    simp only [exec, hro]
    obtain ⟨q, h1, h⟩ := run_bindS h
    simp only [tpassTL_ok _ _ _ h1]
    split at h
    · rename_i g caps hf
      simp only [hf]
      split at h
      · rename_i hlt
        rw [if_pos hlt]
        obtain ⟨p, h2, h⟩ := run_bindS h
        simp only [hO _ _ _ _ h2]
        split at h
        · rename_i s _ _ _ _ hg
          simp only [hg]
          cases s with
          | busy => cases h
          | ready => simpa [Tr.run] using h
          | done x => simpa [Tr.run] using h
        · cases h
      · cases h
    · cases h
  | _ => intro _; refine ⟨fun st r h => by simp [texec2, Tr.run] at h, fun l st r h => by simp [tjump, Tr.run] at h⟩

theorem texec2_ok {T : Tab} {orc : TOrc} {oo : Orc} (hO : ∀ f xs G r, (orc f xs G).run = some r → oo f xs G = some r) {H : Nat → List Nat} {lo : Nat → St → Tr (Ex × St)} {ro : List Nat} (hro : H 3000000 = ro) (c : Code) (hl : LoOk2 T oo H lo c) (st : St) (r : Ex × St)
    (h : (texec2 T orc lo ro c st).run = some r) : ∃ K, exec T oo K H c st = some r := (texec_jump_ok hO hro c hl).1 st r h

/-! ### loops -/

/-- from a tidy head, a loop comes to r -/
def LoopTo (T : Tab) (oo : Orc) (H : Nat → List Nat) (b : Code) (s : St) (r : Ex × St) : Prop :=
  ∃ K, (match exec T oo K H b s with
    | some (.norm, s1) => loopN K (fun st => exec T oo K H b (tidy (H (firstRegion b)) st)) s1
    | q => q).map (tidyX H b) = some r

theorem LoopTo.start {T : Tab} {oo : Orc} {H : Nat → List Nat} {b : Code} {s : St} {r : Ex × St} (h : LoopTo T oo H b (tidy (H (firstRegion b)) s) r) : ∃ K, exec T oo K H (.loop b) s = some r := by
  obtain ⟨K, h⟩ := h
  obtain ⟨p, h, hp⟩ := Option.map_eq_some_iff.1 h
  refine ⟨K + 1, ?_⟩
  simp only [exec]
  refine Option.map_eq_some_iff.2 ⟨p, ?_, hp⟩
  simp only [loopN]
  cases he : exec T oo K H b (tidy (H (firstRegion b)) s) with
  | none => rw [he] at h; cases h
  | some p =>
    rw [he] at h
    rw [exec_mono (Nat.le_succ K) _ _ _ he]
    obtain ⟨ex, s1⟩ := p
    cases ex with
    | norm => exact loopN_mono (fun s r h => exec_mono (Nat.le_succ K) _ _ _ h) K K s1 _ (Nat.le_refl K) h
    | exit j => exact h
    | goto j => exact h
    | ret => exact h

theorem tround_ok {T : Tab} {orc : TOrc} {oo : Orc} (hO : ∀ f xs G r, (orc f xs G).run = some r → oo f xs G = some r) {H : Nat → List Nat} {lo : Nat → St → Tr (Ex × St)} {b : Code} (hl : LoOk2 T oo H lo b) {s : St} {r : Ex × St}
    (h : (tround T orc lo H b s).run = some r) : ∃ K q, exec T oo K H b s = some q ∧ match q with
      | (.norm, s1) => r = (.norm, tidy (H (firstRegion b)) s1)
      | q => r = tidyX H b q := by
  obtain ⟨p, h1, h2⟩ := run_bindS h
  obtain ⟨K, e⟩ := texec2_ok hO rfl b hl _ _ h1
  refine ⟨K, p, e, ?_⟩
  obtain ⟨ex, s1⟩ := p
  cases ex <;> simpa [Tr.run, eq_comm] using h2

theorem LoopTo.more {T : Tab} {orc : TOrc} {oo : Orc} (hO : ∀ f xs G r, (orc f xs G).run = some r → oo f xs G = some r) {H : Nat → List Nat} {lo : Nat → St → Tr (Ex × St)} {b : Code} (hl : LoOk2 T oo H lo b) {s s1 : St} {r : Ex × St}
    (h : (tround T orc lo H b s).run = some (.norm, s1)) (h1 : LoopTo T oo H b s1 r) : LoopTo T oo H b s r := by
  obtain ⟨K, q, e, hq⟩ := tround_ok hO hl h
  obtain ⟨ex, s2⟩ := q
  cases ex with
  | norm =>
    simp only [Prod.mk.injEq, true_and] at hq
    subst hq
    obtain ⟨K2, e2⟩ := LoopTo.start h1
    refine ⟨max K K2, ?_⟩
    simp only [exec_mono (Nat.le_max_left K K2) _ _ _ e]
    have := exec_mono (Nat.le_max_right K K2) _ _ _ e2
    simpa only [exec] using this
  | exit j => simp [tidyX] at hq
  | goto j => simp [tidyX] at hq
  | ret => simp [tidyX] at hq

theorem LoopTo.last {T : Tab} {orc : TOrc} {oo : Orc} (hO : ∀ f xs G r, (orc f xs G).run = some r → oo f xs G = some r) {H : Nat → List Nat} {lo : Nat → St → Tr (Ex × St)} {b : Code} (hl : LoOk2 T oo H lo b) {s s1 : St} {ex : Ex}
    (h : (tround T orc lo H b s).run = some (ex, s1)) (hn : ex ≠ .norm) : LoopTo T oo H b s (ex, s1) := by
  obtain ⟨K, q, e, hq⟩ := tround_ok hO hl h
  refine ⟨K, ?_⟩
  rw [e]
  obtain ⟨ex', s2⟩ := q
  cases ex' with
  | norm =>
    simp only [Prod.mk.injEq] at hq
    exact absurd hq.1 hn
  | exit j => simp only at hq; rw [hq]; rfl
  | goto j => simp only at hq; rw [hq]; rfl
  | ret => simp only at hq; rw [hq]; rfl

/-! ### functions -/

theorem tresultV_ok {T : Tab} {st : St} {rv : ResultVar} {a : AV} (h : (tresultV T st rv).run = some a) : resultV T st rv = some a := by
  cases rv with
  | tmp t => exact h
  | cell a t => exact tload2_ok h

theorem tresultsV_ok {T : Tab} {st : St} : ∀ (l : List ResultVar) (as : List AV), (tresultsV T st l).run = some as → resultsV T st l = some as
  | [], as, h => h
  | rv :: l, as, h => by
    simp only [tresultsV] at h
    obtain ⟨a, h1, h⟩ := run_bindS h
    obtain ⟨bs, h2, h⟩ := run_bindS h
    simp only [resultsV, tresultV_ok h1, tresultsV_ok l _ h2]
    exact h

theorem tfinish_ok {T : Tab} {fn : Func} {st : St} {r : AV × List Ent} (h : (tfinish T fn st).run = some r) : finishK T fn st = some r := by
  unfold tfinish at h
  unfold finishK
  obtain ⟨as, h1, h⟩ := run_bindS h
  rw [tresultsV_ok _ _ h1]
  split at h
  · obtain ⟨p, h2, h⟩ := run_bindS h
    simp only [tbackP_ok h2]
    exact h
  · rename_i hx
    obtain ⟨p, h2, h⟩ := run_bindS h
    split
    · rename_i a heq
      injection heq with heq
      exact absurd heq (hx _)
    · rename_i as' _ heq
      injection heq with heq
      subst heq
      simp only [tpassL_ok _ _ _ h2]
      exact h
    · rename_i heq; cases heq

theorem tfn_ok {T : Tab} {orc : TOrc} {oo : Orc} (hO : ∀ f xs G r, (orc f xs G).run = some r → oo f xs G = some r) {H : Nat → List Nat} {lo : Nat → St → Tr (Ex × St)} {ro : List Nat} (hro : H 3000000 = ro) {fn : Func} (hL : ∀ c, fn.body = some c → LoOk2 T oo H lo c) {args : List AV} {G : List Ent}
    {r : AV × List Ent} (h : (tfnR T orc lo ro fn args G).run = some r) : args.length ≤ fn.ntmps ∧ ∃ K, execFn T oo K H fn args G = some r := by
  unfold tfnR at h
  split at h
  · rename_i hlen
    refine ⟨hlen, ?_⟩
    unfold execFn
    split at h
    · rename_i c hc
      simp only [hc]
      obtain ⟨p, h1, h⟩ := run_bindS h
      obtain ⟨K, e⟩ := texec2_ok hO hro c (hL c hc) _ _ h1
      refine ⟨K, ?_⟩
      rw [e]
      obtain ⟨ex, s⟩ := p
      cases ex with
      | norm => exact tfinish_ok h
      | ret => exact tfinish_ok h
      | goto j => cases h
      | exit j => cases h
    · cases h
  · cases h

/-- trees that are contracts -/
def TOk (P : Program) (t : TOrc) : Prop := ∀ f, COk P f (fun a G => (t f a G).run)

abbrev TOrc.runs (t : TOrc) : Orc := fun f a G => (t f a G).run

theorem tok_fnR {P : Program} {T : Tab} (hT : TabOk P T) {t : TOrc} (hO : TOk P t) {f : FuncId} {fn : Func} (hf : P.funcs[f]? = some fn) (hname : (fn.name == "runtime.NumGoroutine") = false) {H : Nat → List Nat} {lo : Nat → St → Tr (Ex × St)} {ro : List Nat} (hro : H 3000000 = ro)
    (hL : ∀ c, fn.body = some c → LoOk2 T t.runs H lo c) (hlt : f < yB := by decide) : COk P f (fun a G => (tfnR T t lo ro fn a G).run) :=
  cok_of_exec (orc := t.runs) (K := 0) (H := H) hT hO (draw_ok P hT) hf hname (fun _ _ _ h => tfn_ok (oo := t.runs) (fun _ _ _ _ h => h) hro hL h) hlt

theorem tok_fn {P : Program} {T : Tab} (hT : TabOk P T) {t : TOrc} (hO : TOk P t) {f : FuncId} {fn : Func} (hf : P.funcs[f]? = some fn) (hname : (fn.name == "runtime.NumGoroutine") = false) {H : Nat → List Nat} {lo : Nat → St → Tr (Ex × St)}
    (hL : ∀ c, fn.body = some c → LoOk2 T t.runs H lo c) (hro : H 3000000 = [] := by rfl) (hlt : f < yB := by decide) : COk P f (fun a G => (tfn T t lo fn a G).run) := tok_fnR hT hO hf hname hro hL hlt

theorem LoopTo.det {T : Tab} {oo : Orc} {H : Nat → List Nat} {b : Code} {s : St} {r r' : Ex × St} (h : LoopTo T oo H b s r) (h' : LoopTo T oo H b s r') : r = r' := by
  obtain ⟨K, h⟩ := h
  obtain ⟨K', h'⟩ := h'
  obtain ⟨p, h, hp⟩ := Option.map_eq_some_iff.1 h
  obtain ⟨p', h', hp'⟩ := Option.map_eq_some_iff.1 h'
  have up : ∀ (M M' : Nat) (q : Ex × St), M ≤ M' → (match exec T oo M H b s with
    | some (.norm, s1) => loopN M (fun st => exec T oo M H b (tidy (H (firstRegion b)) st)) s1
    | q => q) = some q → (match exec T oo M' H b s with
    | some (.norm, s1) => loopN M' (fun st => exec T oo M' H b (tidy (H (firstRegion b)) st)) s1
    | q => q) = some q := by
    intro M M' q hM hq
    cases he : exec T oo M H b s with
    | none => rw [he] at hq; cases hq
    | some p =>
      rw [he] at hq
      rw [exec_mono hM _ _ _ he]
      obtain ⟨ex, s1⟩ := p
      cases ex with
      | norm => exact loopN_mono (fun s r h => exec_mono hM _ _ _ h) M M' s1 q hM hq
      | exit j => exact hq
      | goto j => exact hq
      | ret => exact hq
  have h1 := up K (max K K') p (Nat.le_max_left _ _) h
  have h2 := up K' (max K K') p' (Nat.le_max_right _ _) h'
  have := Option.some.inj (h1.symm.trans h2)
  rw [← hp, ← hp', this]

open Classical in
/-- what a loop comes to, if it is of the form out -/
noncomputable def loS {B : Type} (T : Tab) (oo : Orc) (H : Nat → List Nat) (b : Code) (out : B → Ex × St) (s : St) : Option B :=
  if h : ∃ x, LoopTo T oo H b s (out x) then some h.choose else none

theorem loS_ok {B : Type} {T : Tab} {oo : Orc} {H : Nat → List Nat} {b : Code} {out : B → Ex × St} {s : St} {x : B} (h : loS T oo H b out s = some x) : LoopTo T oo H b s (out x) := by
  unfold loS at h
  split at h
  · rename_i he
    injection h with h
    rw [← h]
    exact he.choose_spec
  · cases h

theorem loS_eq {B : Type} {T : Tab} {oo : Orc} {H : Nat → List Nat} {b : Code} {out : B → Ex × St} {s : St} {x : B} (hi : ∀ x y, out x = out y → x = y) (h : LoopTo T oo H b s (out x)) : loS T oo H b out s = some x := by
  unfold loS
  have he : ∃ x, LoopTo T oo H b s (out x) := ⟨x, h⟩
  rw [dif_pos he]
  exact congrArg some (hi _ _ (he.choose_spec.det h))

/-- a loop's tree -/
noncomputable def tlo {B : Type} (T : Tab) (oo : Orc) (H : Nat → List Nat) (b : Code) (out : B → Ex × St) (st : St) : Tr (Ex × St) :=
  .get (loS T oo H b out (tidy (H (firstRegion b)) st)) fun x => .ret (out x)

theorem tlo_ok {B : Type} {T : Tab} {oo : Orc} {H : Nat → List Nat} {b : Code} {out : B → Ex × St} {st : St} {r : Ex × St} (h : (tlo T oo H b out st).run = some r) : ∃ K, exec T oo K H (.loop b) st = some r := by
  obtain ⟨x, hx, h⟩ := run_get h
  simp only [Tr.run, Option.some.injEq] at h
  subst h
  exact LoopTo.start (loS_ok hx)

end Go.Eng
namespace Go.Eng
open Go
variable [Inhabited Pkg]
set_option linter.unusedSectionVars false

/-- a loop that is left in two ways -/
noncomputable def tloB (T : Tab) (oo : Orc) (H : Nat → List Nat) (b : Code) (out : Bool → Ex × St) (st : St) : Tr (Ex × St) :=
  .get (loS T oo H b out (tidy (H (firstRegion b)) st)) fun x => .ask x (.ret (out true)) (.ret (out false))

theorem tloB_ok {T : Tab} {oo : Orc} {H : Nat → List Nat} {b : Code} {out : Bool → Ex × St} {st : St} {r : Ex × St} (h : (tloB T oo H b out st).run = some r) : ∃ K, exec T oo K H (.loop b) st = some r := by
  obtain ⟨x, hx, h⟩ := run_get h
  cases x with
  | true =>
    simp only [Tr.run, Option.some.injEq] at h
    subst h
    exact LoopTo.start (loS_ok hx)
  | false =>
    simp only [Tr.run, Option.some.injEq] at h
    subst h
    exact LoopTo.start (loS_ok hx)

/-- a loop, round by round: for so many rounds as are plain to see -/
noncomputable def tunroll (T : Tab) (orc : TOrc) (lo : Nat → St → Tr (Ex × St)) (H : Nat → List Nat) (b : Code) : Nat → St → Tr (Ex × St)
  | 0, _ => .fail
  | n + 1, s => (tround T orc lo H b s).bind fun p => match p with
    | (.norm, s1) => tunroll T orc lo H b n s1
    | r => .ret r

theorem tunroll_ok {T : Tab} {orc : TOrc} {oo : Orc} (hO : ∀ f xs G r, (orc f xs G).run = some r → oo f xs G = some r) {H : Nat → List Nat} {lo : Nat → St → Tr (Ex × St)} {b : Code} (hl : LoOk2 T oo H lo b) :
    ∀ (n : Nat) (s : St) (r : Ex × St), (tunroll T orc lo H b n s).run = some r → LoopTo T oo H b s r
  | 0, s, r, h => by cases h
  | n + 1, s, r, h => by
    simp only [tunroll] at h
    obtain ⟨p, h1, h2⟩ := run_bindS h
    obtain ⟨ex, s1⟩ := p
    cases ex with
    | norm => exact LoopTo.more hO hl h1 (tunroll_ok hO hl n s1 r h2)
    | exit j =>
      simp only [Tr.run, Option.some.injEq] at h2
      subst h2
      exact LoopTo.last hO hl h1 (by intro h; cases h)
    | goto j =>
      simp only [Tr.run, Option.some.injEq] at h2
      subst h2
      exact LoopTo.last hO hl h1 (by intro h; cases h)
    | ret =>
      simp only [Tr.run, Option.some.injEq] at h2
      subst h2
      exact LoopTo.last hO hl h1 (by intro h; cases h)

/-- an unrolled loop's tree, from any head -/
noncomputable def tloU (T : Tab) (orc : TOrc) (lo : Nat → St → Tr (Ex × St)) (H : Nat → List Nat) (b : Code) (n : Nat) (st : St) : Tr (Ex × St) :=
  tunroll T orc lo H b n (tidy (H (firstRegion b)) st)

theorem tloU_ok {T : Tab} {orc : TOrc} {oo : Orc} (hO : ∀ f xs G r, (orc f xs G).run = some r → oo f xs G = some r) {H : Nat → List Nat} {lo : Nat → St → Tr (Ex × St)} {b : Code} (hl : LoOk2 T oo H lo b) {n : Nat} {st : St} {r : Ex × St}
    (h : (tloU T orc lo H b n st).run = some r) : ∃ K, exec T oo K H (.loop b) st = some r := LoopTo.start (tunroll_ok hO hl n _ r h)

/-! ### which loops a code has -/
theorem LoOk2.of {T : Tab} {oo : Orc} {H : Nat → List Nat} {lo : Nat → St → Tr (Ex × St)} : ∀ (c : Code), (∀ b ∈ loops c, ∀ st r, (lo (firstRegion b) st).run = some r → ∃ K, exec T oo K H (.loop b) st = some r) → LoOk2 T oo H lo c
  | .seq a b, h => ⟨LoOk2.of a fun x hx => h x (List.mem_append_left _ hx), LoOk2.of b fun x hx => h x (List.mem_append_right _ hx)⟩
  | .cond _ a b, h => ⟨LoOk2.of a fun x hx => h x (List.mem_append_left _ hx), LoOk2.of b fun x hx => h x (List.mem_append_right _ hx)⟩
  | .block _ b, h => LoOk2.of b h
  | .scope b, h => LoOk2.of b h
  | .loop b, h => h b (List.mem_singleton.2 rfl)
  | .skip, _ => trivial
  | .region _ _ _, _ => trivial
  | .exit _, _ => trivial
  | .ret, _ => trivial
  | .label _, _ => trivial
  | .goto _, _ => trivial
  | .rangeFunc .., _ => trivial
  | .refuse _, _ => trivial

def lpOf (c : Code) (i : Nat) : Code := ((loops c)[i]?).getD .skip
def codeOf (fn : Func) : Code := fn.body.getD .skip

/-! ### a function by its shape -/
open Classical in
noncomputable def fnS {B : Type} (out : B → AV × List Ent) (o : Option (AV × List Ent)) : Option B :=
  if h : ∃ b, o = some (out b) then some h.choose else none

theorem fnS_ok {B : Type} {out : B → AV × List Ent} {o : Option (AV × List Ent)} {b : B} (h : fnS out o = some b) : o = some (out b) := by
  unfold fnS at h
  split at h
  · rename_i he
    injection h with h
    rw [← h]
    exact he.choose_spec
  · cases h

theorem fnS_eq {B : Type} {out : B → AV × List Ent} {o : Option (AV × List Ent)} {b : B} (hi : ∀ x y, out x = out y → x = y) (h : o = some (out b)) : fnS out o = some b := by
  unfold fnS
  have he : ∃ b, o = some (out b) := ⟨b, h⟩
  rw [dif_pos he]
  refine congrArg some (hi _ _ ?_)
  exact Option.some.inj (he.choose_spec.symm.trans h)

noncomputable def tspec {B : Type} (out : B → AV × List Ent) (o : Option (AV × List Ent)) : Tr (AV × List Ent) :=
  .get (fnS out o) fun b => .ret (out b)

theorem tspec_ok {B : Type} {out : B → AV × List Ent} {o : Option (AV × List Ent)} {r : AV × List Ent} (h : (tspec out o).run = some r) : o = some r := by
  obtain ⟨b, hb, h⟩ := run_get h
  simp only [Tr.run, Option.some.injEq] at h
  subst h
  exact fnS_ok hb

/-! ### rounds of ranges over functions -/

def nodupN : List Nat → Bool
  | [] => true
  | x :: r => !r.contains x && nodupN r

noncomputable def loF (mk : Nat → Code → St → Tr (Ex × St)) : List Code → Nat → St → Tr (Ex × St)
  | [], _, _ => .fail
  | b :: r, n, st => if firstRegion b = n then mk n b st else loF mk r n st

/-- loops by their numbers, whatever code they are -/
noncomputable def loM (mk : Nat → Code → St → Tr (Ex × St)) (ls : List Code) (n : Nat) (st : St) : Tr (Ex × St) := if nodupN (ls.map firstRegion) = true then loF mk ls n st else .fail

theorem loF_at {mk : Nat → Code → St → Tr (Ex × St)} {st : St} : ∀ {ls : List Code} {b : Code}, nodupN (ls.map firstRegion) = true → b ∈ ls → loF mk ls (firstRegion b) st = mk (firstRegion b) b st
  | [], _, _, h => by cases h
  | a :: r, b, hn, h => by
    simp only [List.map_cons, nodupN, Bool.and_eq_true, Bool.not_eq_true'] at hn
    simp only [loF]
    rcases List.mem_cons.1 h with rfl | h
    · rw [if_pos rfl]
    · rw [if_neg (fun e => by
        have : (r.map firstRegion).contains (firstRegion a) = true := by
          rw [e]
          simpa using ⟨b, h, rfl⟩
        rw [this] at hn
        cases hn.1)]
      exact loF_at hn.2 h

theorem LoOk2.M {T : Tab} {oo : Orc} {H : Nat → List Nat} {mk : Nat → Code → St → Tr (Ex × St)} (hmk : ∀ n b st r, (mk n b st).run = some r → ∃ K, exec T oo K H (.loop b) st = some r) (c : Code) : LoOk2 T oo H (loM mk (loops c)) c := by
  refine LoOk2.of c fun b hb st r h => ?_
  unfold loM at h
  split at h
  · rename_i hn
    rw [loF_at hn hb] at h
    exact hmk _ _ _ _ h
  · cases h

theorem tyld_ok {T : Tab} {orc : TOrc} {oo : Orc} (hO : ∀ f xs G r, (orc f xs G).run = some r → oo f xs G = some r) {H : Nat → List Nat} {lo : List Code → Nat → St → Tr (Ex × St)} {ro : List Nat} (hro : H 3000000 = ro) (hL : ∀ c, LoOk2 T oo H (lo (loops c)) c) {gi : Nat} {args : List AV} {G : List Ent}
    {r : AV × List Ent} (h : (tyld T orc lo ro gi args G).run = some r) : ∃ K, roundK T oo K H gi args G = some r := by
  unfold tyld at h
  unfold roundK
  split at h
  case h_2 => cases h
  rename_i ts ps asg body hG
  simp only [hG]
  split at h
  case isFalse => cases h
  rename_i hc
  obtain ⟨p, h1, h⟩ := run_bindS h
  obtain ⟨K1, e1⟩ := texec2_ok hO hro asg (hL asg) _ _ h1
  split at h
  case h_2 => cases h
  rename_i st1
  split at h
  case h_2 => cases h
  rename_i ts1 ps1 asg1 body1 hG1
  obtain ⟨q, h2, h⟩ := run_bindS h
  obtain ⟨K2, e2⟩ := texec2_ok hO hro body (hL body) _ _ h2
  split at h
  case h_2 => cases h
  rename_i ts2 ps2 asg2 body2 hG2
  refine ⟨max K1 K2, ?_⟩
  rw [if_pos hc]
  simp only [exec_mono (Nat.le_max_left K1 K2) _ _ _ e1, hG1, exec_mono (Nat.le_max_right K1 K2) _ _ _ e2, hG2]
  exact h

theorem tok_yld {P : Program} {T : Tab} (hT : TabOk P T) {t : TOrc} (hO : TOk P t) {H : Nat → List Nat} {lo : List Code → Nat → St → Tr (Ex × St)} {ro : List Nat} (hro : H 3000000 = ro) (hL : ∀ c, LoOk2 T t.runs H (lo (loops c)) c) (gi : Nat) :
    COk P (yB + gi) (fun a G => (tyld T t lo ro gi a G).run) :=
  round_ok (orc := t.runs) (K := 0) (H := H) hT hO (draw_ok P hT) gi fun _ _ _ h => tyld_ok (oo := t.runs) (fun _ _ _ _ h => h) hro hL h

end Go.Eng
end
