/- Regions: one operation after the other. -/
import Derived.Test.YtkconbpjimjbnaaEngX
namespace Go.Eng
open Go Go.RowKit

/-! ### free places -/

structure FreeBut (k : Nat) (m m' : Mem) : Prop where
  free : ∀ (i : Nat), i ≠ k → m.L[i]? = some none → m'.L[i]? = some none
  len : m'.L.length = m.L.length

theorem Free.but {m m' : Mem} (h : Free m m') (k : Nat) : FreeBut k m m' := ⟨fun i _ hi => h.free i hi, h.len⟩

theorem FreeBut.trans {k : Nat} {a b c : Mem} (h : FreeBut k a b) (q : FreeBut k b c) : FreeBut k a c := ⟨fun i hi hn => q.free i hi (h.free i hi hn), q.len.trans h.len⟩

theorem FreeBut.set (m : Mem) (k : Nat) (e : Ent) : FreeBut k m (m.set (.loc k) e) := by
  refine ⟨fun i hi hn => ?_, by simp [Mem.set]⟩
  simp only [Mem.set]
  rw [set_get, if_neg (fun h => hi h.1.symm)]
  exact hn

theorem Free.G {m : Mem} {G : List Ent} {ep : Nat} : Free m { m with G := G, ep := ep } := ⟨fun _ h => h, rfl⟩

theorem Free.tick (m : Mem) : Free m m.tick := ⟨fun _ h => h, rfl⟩

theorem store_free {T : Tab} {m m' : Mem} {t : TypeId} {a x : AV} (h : store T m t a x = some m') : Free m m' := by
  unfold store at h
  split at h
  · split at h
    · rename_i xs m0 hk
      have f0 := mapS_free (fun _ _ _ _ h => keep_free h) _ _ _ _ hk
      split at h
      · split at h
        · split at h
          · split at h
            · rename_i hget
              split at h
              · injection h with h; subst h; exact f0.trans (.set hget)
              · cases h
            · cases h
          · split at h
            · rename_i hg
              have f1 := giveL_free (give_free 2) _ _ _ _ _ _ hg
              split at h
              · split at h
                · injection h with h; subst h; exact (f0.trans f1).trans ⟨fun _ h => h, rfl⟩
                · cases h
              · cases h
            · cases h
        · split at h
          · rename_i hs
            have f1 := mapS_free (fun _ _ _ _ h => snap_free h) _ _ _ _ hs
            split at h
            · rename_i hget
              split at h
              · split at h
                · split at h
                  · injection h with h; subst h; exact (f0.trans f1).trans (.set hget)
                  · cases h
                · cases h
              · cases h
            · cases h
          · cases h
        · split at h
          · rename_i hs
            have f1 := mapS_free (fun _ _ _ _ h => snap_free h) _ _ _ _ hs
            split at h
            · split at h
              · split at h
                · split at h
                  · injection h with h; subst h; exact (f0.trans f1).trans .setRow
                  · cases h
                · cases h
              · cases h
            · cases h
          · cases h
        · cases h
      · cases h
    · cases h
  · cases h

theorem append_free {T : Tab} {m m' : Mem} {k : Nat} {t t2 : TypeId} {x y res : AV} (h : append T m k t t2 x y = some (res, m')) : FreeBut k m m' := by
  unfold append at h
  split at h
  · split at h
    · split at h
      · split at h
        · split at h
          · split at h
            · try dsimp only at h
              split at h
              · split at h
                · simp only [Option.some.injEq, Prod.mk.injEq] at h
                  rw [← h.2]; exact (Free.refl _).but _
                · simp only [Option.some.injEq, Prod.mk.injEq] at h
                  rw [← h.2]; exact .set _ _ _
              · cases h
            · try dsimp only at h
              split at h
              · split at h
                · simp only [Option.some.injEq, Prod.mk.injEq] at h
                  rw [← h.2]; exact (Free.refl _).but _
                · simp only [Option.some.injEq, Prod.mk.injEq] at h
                  rw [← h.2]; exact .set _ _ _
              · cases h
            · try dsimp only at h
              split at h
              · split at h
                · rename_i hget
                  split at h
                  · split at h
                    · split at h
                      · split at h
                        · simp only [Option.some.injEq, Prod.mk.injEq] at h
                          rw [← h.2]; exact (Free.refl _).but _
                        · simp only [Option.some.injEq, Prod.mk.injEq] at h
                          rw [← h.2]; exact .set _ _ _
                      · split at h
                        · simp only [Option.some.injEq, Prod.mk.injEq] at h
                          rw [← h.2]
                          exact ((Free.set hget).but k).trans (.set _ _ _)
                        · cases h
                    · cases h
                  · cases h
                · cases h
              · cases h
            · try dsimp only at h
              split at h
              · split at h
                · split at h
                  · split at h
                    · split at h
                      · split at h
                        · simp only [Option.some.injEq, Prod.mk.injEq] at h
                          rw [← h.2]; exact (Free.refl _).but _
                        · simp only [Option.some.injEq, Prod.mk.injEq] at h
                          rw [← h.2]; exact .set _ _ _
                      · split at h
                        · simp only [Option.some.injEq, Prod.mk.injEq] at h
                          rw [← h.2]
                          exact ((Free.setRow.trans (Free.tick _)).but k).trans (.set _ _ _)
                        · cases h
                    · cases h
                  · cases h
                · cases h
              · cases h
            · cases h
          · cases h
        · cases h
      · cases h
    · cases h
  · cases h

theorem callF_free {orc : Orc} {m m' : Mem} {k : Nat} {f : FuncId} {as : List AV} {res : AV} (h : callF orc m k f as = some (res, m')) : FreeBut k m m' := by
  unfold callF at h
  split at h
  · rename_i hp
    have f0 := mapS_free (fun _ _ _ _ h => pass_free h) _ _ _ _ hp
    split at h
    · unfold take at h
      split at h
      · simp only [Option.some.injEq, Prod.mk.injEq] at h
        rw [← h.2]
        exact ((f0.trans Free.G).but k).trans (.set _ _ _)
      all_goals first
        | (cases h; done)
        | (simp only [Option.some.injEq, Prod.mk.injEq] at h
           rw [← h.2]
           exact (f0.trans Free.G).but k)
    · cases h
  · cases h

theorem sem_free {T : Tab} {orc : Orc} {o : Oper} {k : Nat} {v : Operand → AV} {m m' : Mem} {res : AV} (h : sem T orc o k v m = some (res, m')) :
    FreeBut k m m' ∧ (lays o = false → Free m m') := by
  unfold sem at h
  have P : ∀ {o' : Option AV}, o'.map (·, m) = some (res, m') → FreeBut k m m' ∧ (lays o = false → Free m m') := fun h => by
    obtain ⟨_, rfl⟩ := map_pair h
    exact ⟨(Free.refl _).but _, fun _ => .refl _⟩
  split at h
  · simp only [Option.some.injEq, Prod.mk.injEq] at h
    rw [← h.2]
    exact ⟨(Free.refl _).but _, fun _ => .refl _⟩
  · exact ⟨(keep_free h).but _, fun _ => keep_free h⟩
  · exact P h
  · rename_i ho
    refine ⟨?_, fun hl => by simp [lays, ho] at hl⟩
    unfold alloc at h
    split at h
    · simp only [Option.some.injEq, Prod.mk.injEq] at h
      rw [← h.2]; exact .set _ _ _
    · cases h
  · rename_i ho
    refine ⟨?_, fun hl => by simp [lays, ho] at hl⟩
    unfold box at h
    split at h
    · rename_i hk
      split at h
      · simp only [Option.some.injEq, Prod.mk.injEq] at h
        rw [← h.2]; exact ((mapS_free (fun _ _ _ _ h => keep_free h) _ _ _ _ hk).but k).trans (.set _ _ _)
      · cases h
    · cases h
  · exact P h
  · rename_i ho
    refine ⟨?_, fun hl => by simp [lays, ho] at hl⟩
    unfold buildSlice at h
    split at h
    · split at h
      · split at h
        · split at h
          · split at h
            · split at h
              · rename_i hk
                simp only [Option.some.injEq, Prod.mk.injEq] at h
                rw [← h.2]; exact ((mapS_free (fun _ _ _ _ h => snap_free h) _ _ _ _ hk).but k).trans (.set _ _ _)
              · cases h
            · cases h
          · cases h
        · cases h
      · cases h
    · cases h
  · exact P h
  · obtain ⟨m1, h1, h2⟩ := map_some h
    simp only [Prod.mk.injEq] at h2
    obtain ⟨_, rfl⟩ := h2
    exact ⟨(store_free h1).but _, fun _ => store_free h1⟩
  · exact P h
  · exact P h
  · exact P h
  · rename_i ho
    refine ⟨?_, fun hl => by simp [lays, ho] at hl⟩
    unfold convert at h
    obtain ⟨⟨a0, e0⟩, _, h'⟩ := map_some h
    simp only [Prod.mk.injEq] at h'
    rw [← h'.2]
    cases e0 with
    | none => exact (Free.refl _).but _
    | some e => exact .set _ _ _
  · split at h
    · simp only [Option.some.injEq, Prod.mk.injEq] at h
      rw [← h.2]; exact ⟨(Free.refl _).but _, fun _ => .refl _⟩
    · cases h
  · rename_i ho
    refine ⟨?_, fun hl => by simp [lays, ho] at hl⟩
    unfold makeSlice at h
    split at h
    · split at h
      · split at h
        · split at h
          · split at h
            · rename_i hk
              split at h
              · simp only [Option.some.injEq, Prod.mk.injEq] at h
                rw [← h.2]; exact ((mapS_free (fun _ _ _ _ h => snap_free h) _ _ _ _ hk).but k).trans (.set _ _ _)
              · cases h
            · cases h
          · cases h
        · cases h
      · cases h
    · cases h
  · exact P h
  · exact P h
  · exact P h
  · exact P h
  · exact P h
  · exact P h
  · rename_i cl ho
    unfold call at h
    split at h
    · rename_i hcl
      split at h
      · exact ⟨callF_free h, fun hl => by simp [lays, ho, hcl] at hl⟩
      · cases h
    · rename_i hcl
      split at h
      · split at h
        · exact P h
        · cases h
      · split at h
        · exact ⟨append_free h, fun hl => by simp [lays, ho, hcl] at hl⟩
        · cases h
      · exact P h
      · exact P h
      · cases h
    · cases h
  · cases h

/-! ### one after the other -/

theorem All2.set {α β : Type} {R : α → β → Prop} : ∀ {as : List α} {bs : List β} (d : Nat) {x : α} {y : β}, All2 R as bs → R x y → All2 R (as.set d x) (bs.set d y)
  | [], [], _, _, _, _, _ => trivial
  | _ :: _, _ :: _, 0, _, _, h, k => ⟨k, h.2⟩
  | _ :: _, _ :: _, d + 1, _, _, h, k => ⟨h.1, All2.set d h.2 k⟩
  | [], _ :: _, _, _, _, h, _ => h.elim
  | _ :: _, [], _, _, _, h, _ => h.elim

theorem put_ok {c : Cx} {ts : List AV} {a : Act} (h : All2 (VL c) ts a.tmps.toList) (d : Option Nat) {x : AV} {v : Value} (hv : VL c x v) : All2 (VL c) (putT ts d x) (a.put d v).tmps.toList := by
  cases d with
  | none => exact h
  | some d => simpa [putT, Act.put] using h.set d hv

theorem put_defers (a : Act) (d : Option Nat) (v : Value) : (a.put d v).defers = a.defers := by
  cases d <;> rfl

theorem goes_ok {c : Cx} {ops : Array Oper} {ts : List AV} {a : Act} (h : All2 (VL c) ts a.tmps.toList) {o : Oper} {b : Bool} (hg : goes ops.toList ts o = some b) : Region.wanted o (yielded ops a.tmps) = b := by
  unfold goes at hg
  unfold Region.wanted
  split at hg
  · rename_i ho
    injection hg with hg
    simp only [ho, hg]
  · rename_i j want ho
    simp only [ho]
    split at hg
    · rename_i d hd
      have hd' : (ops[j]?).bind (·.dst) = some d := by rw [← Array.getElem?_toList]; exact hd
      split at hg
      · rename_i b' hb
        injection hg with hg
        obtain ⟨v, q1, q2⟩ := h.get _ _ hb
        rw [Array.getElem?_toList] at q1
        cases q2 with | dat q2 => cases q2 with | bool =>
        simp only [yielded, hd', Option.bind_some, q1]
        rw [← hg]; rfl
      · rename_i hb
        injection hg with hg
        obtain ⟨v, q1, q2⟩ := h.get _ _ hb
        rw [Array.getElem?_toList] at q1
        cases q2
        simp only [yielded, hd', Option.bind_some, q1]
        rw [← hg]; rfl
      · cases hg
    · cases hg

/-- the state that the evaluator tells of -/
structure Sim (c : Cx) (st : St) (a : Act) : Prop where
  mem : MemOk c st.mem
  tmps : All2 (VL c) st.tmps a.tmps.toList
  defers : a.defers = []

theorem rank_lt {ops : List Oper} {i j : Nat} {o : Oper} (ho : ops[i]? = some o) (hl : lays o = true) (hij : i < j) : rank ops i < rank ops j := by
  have hi := (List.getElem?_eq_some_iff.1 ho).1
  have h1 : rank ops (i + 1) = rank ops i + 1 := by
    unfold rank
    rw [List.take_add_one, ho]
    simp [List.filter_append, hl]
  have h2 : rank ops (i + 1) ≤ rank ops j := by
    unfold rank
    have : ops.take (i + 1) = (ops.take j).take (i + 1) := by rw [List.take_take, Nat.min_eq_left (by omega)]
    rw [this]
    exact ((List.take_sublist _ _).filter _).length_le
  omega

/-- the places that what is still to come will lay its entities at -/
def Ahead (ops : List Oper) (base : Nat) (l : List Nat) (m : Mem) : Prop := ∀ i ∈ l, ∀ o, ops[i]? = some o → lays o = true → m.L[base + rank ops i]? = some none

theorem VL.weak {c : Cx} {a : AV} {v : Value} (h : VL c a v) : VL c (weak a) v := by
  cases h with
  | gh hle hm hf he h =>
    refine .gh hle hm hf (Nat.zero_le _) fun e0 => h ?_
    omega
  | dead v => exact .dead v
  | undef => exact .undef
  | dat h => exact .dat h
  | sh hb hl h => exact .sh hb hl h
  | ptrl hb => exact .ptrl hb
  | ptrg hb => exact .ptrg hb
  | nilp => exact .nilp
  | ept hb => exact .ept hb
  | gept he h => exact .gept he h
  | dpt h => exact .dpt h
  | fn hl h => exact .fn hl h
  | nilfn => exact .nilfn
  | agg hl h => exact .agg hl h
  | tup hl h => exact .tup hl h
  | nili => exact .nili
  | err t v => exact .err t v

theorem VL.dW {c : Cx} {a : AV} {v : Value} (h : VL c a v) (d : Option (List Nat)) (i : Nat) (o : Oper) : VL c (dW d i o a) v := by
  unfold Go.Eng.dW
  split
  · exact h
  · split
    · exact h.weak
    · exact h

theorem evOp_ok {P : Program} {T : Tab} {orc : Orc} (hT : TabOk P T) (hO : ∀ f, COk P f (orc f)) {ops : Array Oper} {base : Nat} {d : Option (List Nat)} {i : Nat} {st st1 : St} {c : Cx} {a : Act} (h : evOp T orc d ops.toList base i st = some st1) (hs : Sim c st a)
    (hf : ∀ o, ops.toList[i]? = some o → lays o = true → st.mem.L[base + rank ops.toList i]? = some none) {Q : Exit → Act → World → Prop} {K : Act → World → Prop} (hK : ∀ c' a', Ext c c' → Sim c' st1 a' → K a' c'.w) :
    wpOp P ops Q i K a c.w := by
  unfold evOp at h
  unfold wpOp
  rw [← Array.getElem?_toList]
  split at h
  · rename_i ho
    injection h with h
    subst h
    simp only [ho]
    exact hK c a (.refl _) hs
  · rename_i o ho
    simp only [ho]
    split at h
    · rename_i hg
      rw [goes_ok hs.tmps hg, if_pos rfl]
      split at h
      · cases h
      · split at h
        · rename_i res m' hsem
          split at h
          · injection h with h
            subst h
            left
            have := sem_ok hT hO hs.mem hs.tmps (hf o ho) hsem
            exact this K Q fun c' val x hm hv => hK c' _ x ⟨hm, put_ok (x.all2 hs.tmps) _ (hv.dW _ _ _), by rw [put_defers]; exact hs.defers⟩
          · cases h
        · cases h
    · rename_i hg
      injection h with h
      subst h
      rw [goes_ok hs.tmps hg]
      simp only [Bool.false_eq_true, if_false]
      exact hK c _ (.refl _) ⟨hs.mem, put_ok hs.tmps _ .undef, by rw [put_defers]; exact hs.defers⟩
    · cases h

theorem evOp_free {T : Tab} {orc : Orc} {ops : List Oper} {base : Nat} {d : Option (List Nat)} {i : Nat} {st st1 : St} (h : evOp T orc d ops base i st = some st1) :
    st1.mem.L.length = st.mem.L.length ∧ st1.tmps.length = st.tmps.length ∧ ∀ k, (∀ o, ops[i]? = some o → lays o = true → k ≠ base + rank ops i) → st.mem.L[k]? = some none → st1.mem.L[k]? = some none := by
  unfold evOp at h
  split at h
  · injection h with h
    subst h
    exact ⟨rfl, rfl, fun _ _ h => h⟩
  · rename_i o ho
    split at h
    · split at h
      · cases h
      · split at h
        · rename_i res m' hsem
          split at h
          · injection h with h
            subst h
            obtain ⟨f1, f2⟩ := sem_free hsem
            refine ⟨f1.len, by cases o.dst <;> simp [putT], fun k hk hn => ?_⟩
            cases hl : lays o with
            | true => exact f1.free k (hk o ho hl) hn
            | false => exact (f2 hl).free k hn
          · cases h
        · cases h
    · injection h with h
      subst h
      exact ⟨rfl, by cases o.dst <;> simp [putT], fun _ _ h => h⟩
    · cases h

theorem evOps_ok {P : Program} {T : Tab} {orc : Orc} (hT : TabOk P T) (hO : ∀ f, COk P f (orc f)) {ops : Array Oper} {base : Nat} {d : Option (List Nat)} : ∀ (l : List Nat) (st st1 : St) (c : Cx) (a : Act), evOps T orc d ops.toList base l st = some st1 → Sim c st a → l.Nodup →
    Ahead ops.toList base l st.mem → ∀ {Q : Exit → Act → World → Prop}, (∀ c' a', Ext c c' → Sim c' st1 a' → Q .normal a' c'.w) → wpOps P ops Q l a c.w
  | [], st, st1, c, a, h, hs, _, _, Q, hQ => by
    simp only [evOps, Option.some.injEq] at h
    subst h
    exact hQ c a (.refl _) hs
  | i :: r, st, st1, c, a, h, hs, hn, hf, Q, hQ => by
    simp only [evOps] at h
    split at h
    · rename_i st2 h2
      rw [wpOps_cons]
      refine evOp_ok hT hO h2 hs (fun o ho hl => hf i (by simp) o ho hl) fun c' a' x hs' => ?_
      refine evOps_ok hT hO r st2 st1 c' a' h hs' (List.nodup_cons.1 hn).2 (fun j hj o ho hl => ?_) fun c2 a2 x2 hs2 => hQ c2 a2 (x.trans x2) hs2
      refine (evOp_free h2).2.2 _ (fun o' ho' hl' e => ?_) (hf j (by simp [hj]) o ho hl)
      have hne : i ≠ j := fun e => (List.nodup_cons.1 hn).1 (e ▸ hj)
      rcases Nat.lt_or_gt_of_ne hne with hlt | hlt
      · have := rank_lt ho' hl' hlt; omega
      · have := rank_lt ho hl hlt; omega
    · cases h

end Go.Eng
