/- Regions that draw their order: every order comes to the same. -/
import Derived.Test.YtkconbpjimjbnaaEngZb
namespace Go.Eng
open Go Go.RowKit

/-! ### the bits -/

theorem fold_bits {p : Edge → Bool} {g : Edge → Nat} {x : Nat} : ∀ (l : List Edge) (s : Nat), (l.foldl (fun s e => if p e then s ||| 2 ^ e.on ||| g e else s) s).testBit x = true →
    s.testBit x = true ∨ ∃ e ∈ l, p e = true ∧ (x = e.on ∨ (g e).testBit x = true)
  | [], s, h => .inl h
  | e :: r, s, h => by
    simp only [List.foldl_cons] at h
    rcases fold_bits r _ h with h1 | ⟨e', he', h2⟩
    · split at h1
      · rename_i hp
        simp only [Nat.testBit_or, Bool.or_eq_true, Nat.testBit_two_pow, decide_eq_true_eq] at h1
        rcases h1 with (h1 | h1) | h1
        · exact .inl h1
        · exact .inr ⟨e, by simp, hp, .inl h1.symm⟩
        · exact .inr ⟨e, by simp, hp, .inr h1⟩
      · exact .inl h1
    · exact .inr ⟨e', by simp [he'], h2⟩

theorem bitsOf_spec {acc : List Nat} {o : Oper} {x : Nat} (h : (bitsOf acc o).testBit x = true) : ∃ e ∈ o.after, Region.binds .any e = true ∧ (x = e.on ∨ (acc.getD e.on 0).testBit x = true) := by
  unfold bitsOf at h
  rcases fold_bits (p := fun e => Region.binds .any e) (g := fun e => acc.getD e.on 0) o.after.toList 0 h with h | ⟨e, he, h1, h2⟩
  · simp at h
  · exact ⟨e, by simpa using he, h1, h2⟩

theorem before_from : ∀ (l : List Oper) (acc : List Nat),
    (l.foldl (fun acc o => acc ++ [bitsOf acc o]) acc).take acc.length = acc ∧
    ∀ j o, l[j]? = some o → (l.foldl (fun acc o => acc ++ [bitsOf acc o]) acc)[acc.length + j]? = some (bitsOf ((l.foldl (fun acc o => acc ++ [bitsOf acc o]) acc).take (acc.length + j)) o)
  | [], acc => ⟨by simp, fun j o h => by simp at h⟩
  | o0 :: r, acc => by
    obtain ⟨h1, h2⟩ := before_from r (acc ++ [bitsOf acc o0])
    simp only [List.foldl_cons]
    generalize r.foldl (fun acc o => acc ++ [bitsOf acc o]) (acc ++ [bitsOf acc o0]) = b at h1 h2 ⊢
    simp only [List.length_append, List.length_cons, List.length_nil, Nat.zero_add] at h1 h2
    have h3 : b.take acc.length = acc := by
      have := congrArg (List.take acc.length) h1
      rw [List.take_take, Nat.min_eq_left (by omega)] at this
      simpa using this
    refine ⟨h3, fun j o hj => ?_⟩
    cases j with
    | zero =>
      simp only [List.getElem?_cons_zero, Option.some.injEq] at hj
      subst hj
      simp only [Nat.add_zero, h3]
      have := congrArg (·[acc.length]?) h1
      simp only [List.getElem?_take, Nat.lt_add_one, if_true] at this
      simpa using this
    | succ j =>
      simp only [List.getElem?_cons_succ] at hj
      have := h2 j o hj
      have e : acc.length + (j + 1) = acc.length + 1 + j := by omega
      rw [e]; exact this

theorem before_spec {ops : List Oper} {j x : Nat} (h : ((before ops).getD j 0).testBit x = true) {o : Oper} (ho : ops[j]? = some o) : ∃ e ∈ o.after, Region.binds .any e = true ∧ (x = e.on ∨ ((before ops).getD e.on 0).testBit x = true) := by
  obtain ⟨_, h2⟩ := before_from ops []
  have := h2 j o ho
  simp only [List.length_nil, Nat.zero_add] at this
  change (before ops)[j]? = some (bitsOf ((before ops).take j) o) at this
  rw [List.getD_eq_getElem?_getD, this] at h
  obtain ⟨e, he, h3, h4⟩ := bitsOf_spec h
  refine ⟨e, he, h3, h4.imp id fun h4 => ?_⟩
  rw [List.getD_eq_getElem?_getD, List.getElem?_take] at h4
  split at h4
  · rw [List.getD_eq_getElem?_getD]; exact h4
  · simp at h4

theorem backOk_spec : ∀ (l : List Oper) (j0 j : Nat) (o : Oper), backOk j0 l = true → l[j]? = some o → ∀ e ∈ o.after, e.on < j0 + j
  | [], _, _, _, _, h => by simp at h
  | o0 :: r, j0, j, o, hb, h => by
    simp only [backOk, Bool.and_eq_true] at hb
    cases j with
    | zero =>
      simp only [List.getElem?_cons_zero, Option.some.injEq] at h
      subst h
      intro e he
      have := List.all_eq_true.1 hb.1 e (by simpa using he)
      simpa using this
    | succ j =>
      intro e he
      have := backOk_spec r (j0 + 1) j o hb.2 (by simpa using h) e he
      omega

/-- there is a rank that the edges heed -/
theorem modeOk_spec {ops : List Oper} {md : Region.Mode} (h : modeOk ops md = true) : ∃ rk : Nat → Nat, ∀ (j : Nat) (o : Oper), ops[j]? = some o → ∀ e ∈ o.after, Region.binds md e = true → e.on < ops.length ∧ rk e.on < rk j := by
  unfold modeOk at h
  rw [Bool.or_eq_true] at h
  rcases h with h | h
  · refine ⟨id, fun j o ho e he _ => ?_⟩
    have h1 := backOk_spec ops 0 j o h ho e he
    have h2 := (List.getElem?_eq_some_iff.1 ho).1
    simp only [id]
    omega
  · refine ⟨fun x => (topo md ops ops.length []).idxOf x, fun j o ho e he hb => ?_⟩
    have hj := (List.getElem?_eq_some_iff.1 ho).1
    have h1 := List.all_eq_true.1 h j (by simpa using hj)
    simp only [ho] at h1
    have h2 := List.all_eq_true.1 h1 e (by simpa using he)
    simp only [hb, Bool.not_true, Bool.false_or, Bool.and_eq_true, decide_eq_true_eq] at h2
    exact h2

theorem binds_any {e : Edge} (h : Region.binds .any e = true) (md : Region.Mode) : Region.binds md e = true := by
  unfold Region.binds at h ⊢
  cases hg : e.ground <;> simp_all

/-! ### what is left -/

def rem (n : Nat) (listed : Array Bool) : List Nat := (List.range n).filter fun i => !listed.getD i true

theorem mem_rem {n i : Nat} {listed : Array Bool} : i ∈ rem n listed ↔ i < n ∧ listed.getD i true = false := by
  unfold rem
  rw [List.mem_filter, List.mem_range, Bool.not_eq_true']

theorem rem_sorted (n : Nat) (listed : Array Bool) : (rem n listed).Pairwise (· < ·) := List.Pairwise.filter _ List.pairwise_lt_range

theorem rem_set {n i : Nat} {listed : Array Bool} (hs : listed.size = n) (hi : i < n) {pre post : List Nat} (h : rem n listed = pre ++ i :: post) : rem n (listed.setIfInBounds i true) = pre ++ post := by
  have hp := rem_sorted n listed
  rw [h] at hp
  have hnd : ∀ x ∈ pre ++ post, x ≠ i := by
    intro x hx
    rw [List.pairwise_append] at hp
    obtain ⟨_, h2, h3⟩ := hp
    rcases List.mem_append.1 hx with hx | hx
    · have := h3 x hx i (by simp); omega
    · have := (List.pairwise_cons.1 h2).1 x hx; omega
  have e : rem n (listed.setIfInBounds i true) = (rem n listed).filter (fun x => decide (x ≠ i)) := by
    unfold rem
    rw [List.filter_filter]
    refine List.filter_congr fun x hx => ?_
    by_cases hxi : x = i
    · subst hxi
      simp [hs, hi]
    · rw [getD_set_ne true (Ne.symm hxi)]
      simp [hxi]
  rw [e, h, List.filter_append, List.filter_cons]
  simp only [ne_eq, not_true_eq_false, decide_false, Bool.false_eq_true, if_false]
  rw [← List.filter_append, List.filter_eq_self]
  intro x hx
  simpa using hnd x hx

def Closed (ops : List Oper) (listed : Array Bool) : Prop := ∀ j x, listed.getD j false = true → ((before ops).getD j 0).testBit x = true → listed.getD x false = true

theorem draw_any {P : Program} {T : Tab} {orc : Orc} (hT : TabOk P T) (hO : ∀ f, COk P f (orc f)) {ops : Array Oper} (hd : drawOk T ops.toList = true) {base : Nat} {st1 : St} {md : Region.Mode} {mx : List Nat} (hmx : ∀ k, (mixed ops.toList).contains k = true → mx.contains k = true) : ∀ (fuel : Nat) (listed : Array Bool) (st : St) (c : Cx) (a : Act),
    listed.size = ops.size → Closed ops.toList listed → evOps T orc (some mx) ops.toList base (rem ops.size listed) st = some st1 → Sim c st a → Ahead ops.toList base (rem ops.size listed) st.mem → (rem ops.size listed).length ≤ fuel →
    ∀ {Q : Exit → Act → World → Prop}, (∀ c' a', Far c c' → Sim c' st1 a' → Q .normal a' c'.w) → wpAny P md ops Q fuel listed a c.w := by
  unfold drawOk at hd
  simp only [Bool.and_eq_true] at hd
  obtain ⟨⟨hm1, hm2, hm3⟩, hpairs⟩ := hd
  have hmode : modeOk ops.toList md = true := by
    cases md
    · exact hm2
    · exact hm3
    · exact hm1
  obtain ⟨rk, hrk⟩ := modeOk_spec hmode
  have hready : ∀ {listed : Array Bool} {j : Nat}, j ∈ Region.ready md ops listed → j ∈ rem ops.size listed ∧ ∃ o, ops.toList[j]? = some o ∧ ∀ e ∈ o.after, Region.binds md e = true → listed.getD e.on false = true := by
    intro listed j hj
    obtain ⟨h0, o, ho, h1⟩ := mem_ready.1 hj
    exact ⟨mem_rem.2 ⟨(Array.getElem?_eq_some_iff.1 ho).1, h0⟩, o, by rw [Array.getElem?_toList]; exact ho, h1⟩
  intro fuel
  induction fuel with
  | zero =>
    intro listed st c a hs hc hev hsim ha hlen Q hQ
    have hr : rem ops.size listed = [] := List.length_eq_zero_iff.1 (by omega)
    rw [hr] at hev
    simp only [evOps, Option.some.injEq] at hev
    subst hev
    refine ⟨List.eq_nil_iff_forall_not_mem.2 fun j hj => ?_, hQ c a (.refl _) hsim⟩
    have := (hready hj).1
    rw [hr] at this
    simp at this
  | succ fuel ih =>
    intro listed st c a hs hc hev hsim ha hlen Q hQ
    refine ⟨fun hnil => ?_, fun i hi => ?_⟩
    · -- nothing is left
      cases hr : rem ops.size listed with
      | nil =>
        rw [hr] at hev
        simp only [evOps, Option.some.injEq] at hev
        subst hev
        exact hQ c a (.refl _) hsim
      | cons j r =>
        exfalso
        have none : ∀ n j, rk j = n → j ∉ rem ops.size listed := by
          intro n
          induction n using Nat.strongRecOn with
          | ind n ihn =>
            intro j hjn hj
            obtain ⟨hjl, hj0⟩ := mem_rem.1 hj
            have ho : ops[j]? = some ops[j] := by simp [hjl]
            have : j ∈ Region.ready md ops listed := by
              refine mem_ready.2 ⟨hj0, ops[j], ho, fun e he hb => ?_⟩
              obtain ⟨h1, h2⟩ := hrk j ops[j] (by rw [Array.getElem?_toList]; exact ho) e he hb
              have hnot := ihn (rk e.on) (by omega) e.on rfl
              have hlt2 : e.on < listed.size := by simp only [Array.length_toList] at h1; omega
              have h3 : listed.getD e.on true ≠ false := fun h => hnot (mem_rem.2 ⟨by omega, h⟩)
              simp only [Array.getD_eq_getD_getElem?, Array.getElem?_eq_getElem hlt2, Option.getD_some] at h3 ⊢
              simpa using h3
            rw [hnil] at this
            simp at this
        exact none _ j rfl (by rw [hr]; simp)
    · obtain ⟨him, oi, hoi, hedges⟩ := hready hi
      obtain ⟨hil, hi0⟩ := mem_rem.1 him
      obtain ⟨pre, post, hrem⟩ := List.append_of_mem him
      -- what must have gone before it has gone
      have hbits : ∀ x, ((before ops.toList).getD i 0).testBit x = true → listed.getD x false = true := by
        intro x hx
        obtain ⟨e, he, h1, h2⟩ := before_spec hx hoi
        have hl := hedges e he (binds_any h1 md)
        rcases h2 with rfl | h2
        · exact hl
        · exact hc e.on x hl h2
      have hpre : ∀ x ∈ pre, x ≠ i ∧ ∃ ox, ops.toList[x]? = some ox ∧ free T ops.toList mx x i ox oi = true := by
        intro x hx
        have hp := rem_sorted ops.size listed
        rw [hrem, List.pairwise_append] at hp
        have hlt : x < i := hp.2.2 x hx i (by simp)
        have hxm : x ∈ rem ops.size listed := by rw [hrem]; simp [hx]
        obtain ⟨hxl, hx0⟩ := mem_rem.1 hxm
        have hxo : ops.toList[x]? = some ops.toList[x] := by simp [hxl]
        refine ⟨by omega, _, hxo, ?_⟩
        have h1 := List.all_eq_true.1 hpairs i (by simpa using hil)
        have h2 := List.all_eq_true.1 h1 x (by simpa using hlt)
        simp only [hxo, hoi, Bool.or_eq_true] at h2
        rcases h2 with h2 | h2
        · exfalso
          have hl := hbits x h2
          have hlt2 : x < listed.size := by omega
          simp only [Array.getD_eq_getD_getElem?, Array.getElem?_eq_getElem hlt2, Option.getD_some] at hl hx0
          rw [hl] at hx0
          cases hx0
        · exact free_mono hmx h2
      rw [hrem] at hev
      have hsplit : pre ++ i :: post = (pre ++ [i]) ++ post := by simp
      rw [hsplit, evOps_append] at hev
      cases hmid : evOps T orc (some mx) ops.toList base (pre ++ [i]) st with
      | none => rw [hmid] at hev; cases hev
      | some s2 =>
        rw [hmid] at hev
        simp only [Option.bind_some] at hev
        obtain ⟨s, q1, q2⟩ := to_front hT hoi pre st s2 hpre hmid
        have hev' : evOps T orc (some mx) ops.toList base (pre ++ post) s = some st1 := by
          rw [evOps_append, q2]; exact hev
        refine evOp_ok hT hO q1 hsim (fun o ho hl => ha i him o ho hl) fun c' a' x hs' => ?_
        have hrem' := rem_set hs hil hrem
        refine ih (listed.setIfInBounds i true) s c' a' (by simpa using hs) ?_ (by rw [hrem']; exact hev') hs' ?_ ?_ fun c2 a2 x2 hs2 => hQ c2 a2 (x.far.trans x2) hs2
        · intro j y hj hy
          by_cases hji : j = i
          · subst hji; exact getD_set_true (hbits y hy)
          · rw [getD_set_ne false (Ne.symm hji)] at hj
            exact getD_set_true (hc j y hj hy)
        · rw [hrem']
          intro j hj o ho hl
          have hji : j ≠ i := by
            intro e
            have hp := rem_sorted ops.size listed
            rw [hrem, List.pairwise_append] at hp
            obtain ⟨_, h2, h3⟩ := hp
            rcases List.mem_append.1 hj with hj | hj
            · have := h3 j hj i (by simp); omega
            · have := (List.pairwise_cons.1 h2).1 j hj; omega
          have hjm : j ∈ rem ops.size listed := by
            rw [hrem]
            rcases List.mem_append.1 hj with hj | hj <;> simp [hj]
          refine (evOp_free q1).2.2 _ (fun o' ho' hl' e => ?_) (ha j hjm o ho hl)
          rcases Nat.lt_or_gt_of_ne hji with hlt | hlt
          · have := rank_lt ho hl hlt; omega
          · have := rank_lt ho' hl' hlt; omega
        · rw [hrem']
          rw [hrem] at hlen
          simp only [List.length_append, List.length_cons] at hlen ⊢
          omega

/-- the world drawn on -/
def Cx.drawn (c : Cx) : Cx := { c with w := { c.w with drawn := c.w.drawn + 1 } }

theorem draw_ok (P : Program) {T : Tab} (hT : TabOk P T) : DrawOK P T := by
  intro orc hO ro id ops st st1 c a hd hev hs Q hQ
  have hdr : Drawn c c.drawn := ⟨rfl, rfl, rfl, rfl, rfl, rfl, rfl, rfl, rfl, Nat.le_refl _⟩
  have hs' : Sim c.drawn (st.more (rank ops.toList ops.toList.length)) a := by
    have h1 := hs.more (rank ops.toList ops.toList.length)
    have h2 := hdr.mem h1.mem
    exact ⟨⟨h2.wf, hs.mem.ep, h2.ln, h2.l, h2.gn, h2.g⟩, hdr.ext.all2 h1.tmps, h1.defers⟩
  have hrem0 : rem ops.size (Array.replicate ops.size false) = List.range ops.size := by
    unfold rem
    rw [List.filter_eq_self]
    intro i hi
    simp [List.mem_range.1 hi]
  have key : ∀ md t, wpOps P ops Q (Region.linearise md ops t) a { c.w with drawn := c.w.drawn + 1 } := by
    intro md t
    refine wpAny_sound ops.size t (Array.replicate ops.size false) a _ ?_
    refine draw_any hT hO hd (mx := mxOf ro ops.toList) (fun k hk => by unfold mxOf; split <;> simp_all) (base := st.mem.L.length) (st1 := st1) ops.size _ (st.more (rank ops.toList ops.toList.length)) c.drawn a (by simp) ?_ (by rw [hrem0]; exact hev) hs' (ahead_more _ _ st) (by rw [hrem0]; simp) fun c' a' x hs2 => hQ c' a' (hdr.ext.far.trans x) hs2
    intro j x hj _
    exfalso
    rw [Array.getD_eq_getD_getElem?, Array.getElem?_replicate] at hj
    split at hj <;> cases hj
  refine wp_region_draw fun t => ?_
  unfold Region.schedule
  split
  · exact key _ _
  · exact key _ _

end Go.Eng
