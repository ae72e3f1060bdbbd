/- Regions that draw their order: what does not hang on the order. -/
import Derived.Test.YtkconbpjimjbnaaEngZa
namespace Go.Eng
open Go Go.RowKit

/-! ### what an operation looks at -/

theorem sem_congr {T : Tab} {orc : Orc} {o : Oper} {k base : Nat} {m : Mem} {v v' : Operand → AV} (h : ∀ x ∈ o.op.operands, v x = v' x) :
    sem T orc o k v m = sem T orc o k v' m ∧ okD base v o = okD base v' o := by
  obtain ⟨dst, op, type, pos, after, guard⟩ := o
  cases op <;> simp only [Op.operands] at h <;> simp only [sem, okD]
  case build t ps =>
    refine ⟨?_, trivial⟩
    rw [List.map_congr_left fun p hp => by rw [h p.2 (by simpa using ⟨p.1, by simpa using hp⟩)]]
  case buildSlice t n ps =>
    have e : ∀ p ∈ ps.toList, v p.2 = v' p.2 := fun p hp => h p.2 (by simpa using ⟨p.1, by simpa using hp⟩)
    constructor
    · rw [List.map_congr_left fun p hp => by rw [e p hp]]
    · rw [Bool.eq_iff_iff]
      simp only [List.all_eq_true]
      exact ⟨fun q p hp => by rw [← e p hp]; exact q p hp, fun q p hp => by rw [e p hp]; exact q p hp⟩
  case makeFunc f first caps =>
    have e : ∀ x ∈ caps.toList, v x = v' x := fun x hx => h x (by simp at hx; simp [hx])
    cases f <;> simp only [List.map_congr_left e, and_self]
  case slice t x lo hi mx => cases lo <;> cases hi <;> cases mx <;> simp_all
  case call c =>
    refine ⟨?_, trivial⟩
    have e : c.args.toList.map v = c.args.toList.map v' := List.map_congr_left fun x hx => h x (by simp at hx; simp [Call.operands, hx])
    unfold call
    cases hc : c.callee with
    | value f =>
      have ef : v f = v' f := h f (by simp [Call.operands, hc])
      simp only [ef, e]
    | invoke r n => rfl
    | builtin b =>
      have e1 : ∀ x ∈ c.args, v x = v' x := fun x hx => h x (by simp [Call.operands, hx])
      cases b <;> simp only [e]
      case len =>
        split
        · rename_i x t hx _
          rw [e1 x (by rw [toList_one hx]; simp)]
        · rfl
      case append =>
        split
        · rename_i x y t t2 hx _
          rw [e1 x (by rw [toList_two hx]; simp), e1 y (by rw [toList_two hx]; simp)]
        · rfl
  all_goals (first | exact ⟨trivial, trivial⟩ | exact ⟨rfl, rfl⟩ | (constructor <;> simp_all; done) | (simp_all; done))

theorem opval_put {ts : List AV} {d : Nat} {a : AV} {x : Operand} (h : x ≠ .tmp d) : opval (ts.set d a) x = opval ts x := by
  cases x with
  | tmp t =>
    have hne : d ≠ t := fun e => h (by rw [e])
    simp [opval, List.getD_eq_getElem?_getD, List.getElem?_set_ne hne]
  | _ => rfl

theorem okM_congr {ro : Bool} {base : Nat} {m : Mem} {o : Oper} {v v' : Operand → AV} (h : ∀ x ∈ o.op.operands, v x = v' x) : okM ro base v m o = okM ro base v' m o := by
  obtain ⟨dst, op, type, pos, after, guard⟩ := o
  cases op <;> simp only [Op.operands] at h <;> simp only [okM]
  case load t a => rw [h a (by simp)]
  case call c =>
    have e : (c.args.toList.all fun x => noLocA (v x)) = (c.args.toList.all fun x => noLocA (v' x)) := by
      rw [Bool.eq_iff_iff]
      simp only [List.all_eq_true]
      have e1 : ∀ x ∈ c.args.toList, v x = v' x := fun x hx => h x (by simp at hx; simp [Call.operands, hx])
      exact ⟨fun q x hx => by rw [← e1 x hx]; exact q x hx, fun q x hx => by rw [e1 x hx]; exact q x hx⟩
    rw [e]
    cases hc : c.callee with
    | value f => simp only [h f (by simp [Call.operands, hc])]
    | _ => rfl

theorem dOk_congr {d : Option (List Nat)} {i base : Nat} {m : Mem} {o : Oper} {v v' : Operand → AV} (h : ∀ x ∈ o.op.operands, v x = v' x) : dOk d i base v m o = dOk d i base v' m o := by
  cases d with
  | none => rfl
  | some mx => simp only [dOk, okM_congr h, (sem_congr (T := fun _ => none) (orc := fun _ _ _ => none) (k := 0) (m := default) (base := base) h).2]

/-- the work of one operation -/
noncomputable def step (T : Tab) (orc : Orc) (mx : List Nat) (n : Nat) (ops : List Oper) (base : Nat) (o : Oper) (k : Nat) (ts : List AV) (m : Mem) : Option (AV × Mem) :=
  match goes ops ts o with
  | some true => if !dOk (some mx) n base (opval ts) m o then none else match sem T orc o k (opval ts) m with
    | some (a, m') => if gOk (some mx) n o m m' then some (dW (some mx) n o a, m') else none
    | none => none
  | some false => some (.undef, m)
  | none => none

theorem evOp_step {T : Tab} {orc : Orc} {mx : List Nat} {ops : List Oper} {base i : Nat} {st : St} {o : Oper} (ho : ops[i]? = some o) :
    evOp T orc (some mx) ops base i st = (step T orc mx i ops base o (base + rank ops i) st.tmps st.mem).map fun p => { tmps := putT st.tmps o.dst p.1, mem := p.2 } := by
  unfold evOp step
  simp only [ho]
  cases hg : goes ops st.tmps o with
  | none => rfl
  | some b =>
    cases b with
    | false => rfl
    | true =>
      simp only
      split
      · rfl
      · cases sem T orc o (base + rank ops i) (opval st.tmps) st.mem with
        | none => rfl
        | some p =>
          simp only
          split <;> rfl

theorem step_put {T : Tab} {orc : Orc} {mx : List Nat} {n : Nat} {ops : List Oper} {base k : Nat} {o : Oper} {ts : List AV} {m : Mem} {dx : Option Nat} {a : AV} (h : ∀ d, dx = some d → (looks ops o).contains d = false) :
    step T orc mx n ops base o k (putT ts dx a) m = step T orc mx n ops base o k ts m := by
  cases dx with
  | none => rfl
  | some d =>
    have hd := h d rfl
    have hop : ∀ x ∈ o.op.operands, opval (ts.set d a) x = opval ts x := fun x hx => opval_put fun e => by
      subst e
      have : d ∈ looks ops o := List.mem_append_left _ (List.mem_filterMap.2 ⟨.tmp d, by simpa using hx, rfl⟩)
      simp [this] at hd
    have hg : goes ops (ts.set d a) o = goes ops ts o := by
      unfold goes
      cases hgd : o.guard with
      | none => rfl
      | some gw =>
        obtain ⟨g, want⟩ := gw
        simp only
        cases ht : (ops[g]?).bind (·.dst) with
        | none => rfl
        | some t =>
          have hne : d ≠ t := fun e => by
            subst e
            have : d ∈ looks ops o := by simp [looks, hgd, ht]
            simp [this] at hd
          simp only [List.getElem?_set_ne hne]
    unfold step
    simp only [putT, hg, (sem_congr (T := T) (orc := orc) (k := k) (m := m) (base := base) hop).1, dOk_congr (d := some mx) (i := n) (base := base) (m := m) hop]

/-! ### operations that neither read nor turn memory -/

theorem sem_P {T : Tab} {orc : Orc} {o : Oper} {k base : Nat} {v : Operand → AV} (hp : isP T o = true) (hok : okD base v o = true) : ∃ r : Option AV, ∀ m, sem T orc o k v m = r.map (·, m) := by
  unfold isP at hp
  unfold sem
  unfold okD at hok
  cases hop : o.op <;> simp only [hop] at hp hok ⊢ <;> first
    | (cases hp; done)
    | exact ⟨_, fun m => rfl⟩
    | exact ⟨some _, fun m => rfl⟩
    | skip
  case assign x =>
    refine ⟨some (v x), fun m => ?_⟩
    unfold keep
    split
    · rename_i hx
      rw [hx] at hok
      simp [notGh] at hok
    · rfl
  case convert sr d x =>
    unfold isIntT at hp
    split at hp
    · rename_i kk hk
      generalize v x = X
      refine ⟨match kindT T sr with
        | none => none
        | some _ => match X with
          | .dat (.int _ n) => some (wrapD kk n)
          | _ => none, fun m => ?_⟩
      unfold convert convertP
      simp only [hk]
      cases kindT T sr with
      | none => rfl
      | some ks =>
        cases X <;> first
          | rfl
          | (rename_i dd; cases dd <;> rfl)
    · cases hp
  case makeFunc f first caps =>
    cases f with
    | func f =>
      simp only
      by_cases hc : first.isEmpty = true ∧ ((caps.toList.map v).all AV.leaf = true)
      · exact ⟨some _, fun m => by rw [if_pos hc]; rfl⟩
      · exact ⟨none, fun m => by rw [if_neg hc]; rfl⟩
    | _ => exact ⟨none, fun m => rfl⟩
  case call c =>
    unfold call
    cases hc : c.callee with
    | value f => rw [hc] at hp; cases hp
    | invoke r n => rw [hc] at hp; cases hp
    | builtin b =>
      rw [hc] at hp
      cases b <;> first
        | (cases hp; done)
        | exact ⟨_, fun m => rfl⟩
        | skip
      case len =>
        simp only
        split
        · exact ⟨_, fun m => rfl⟩
        · exact ⟨none, fun m => rfl⟩

theorem okM_P {T : Tab} {o : Oper} {ro : Bool} {base : Nat} {v : Operand → AV} (hp : isP T o = true) (m m' : Mem) : okM ro base v m o = okM ro base v m' o := by
  unfold isP at hp
  unfold okM
  cases hop : o.op <;> simp only [hop] at hp ⊢ <;> first
    | rfl
    | cases hp

theorem dOk_P {T : Tab} {o : Oper} {d : Option (List Nat)} {i base : Nat} {v : Operand → AV} (hp : isP T o = true) (m m' : Mem) : dOk d i base v m o = dOk d i base v m' o := by
  cases d with
  | none => rfl
  | some mx => simp only [dOk, okM_P hp m m']

theorem dOk_okD {mx : List Nat} {i base : Nat} {v : Operand → AV} {m : Mem} {o : Oper} (h : dOk (some mx) i base v m o = true) : okD base v o = true := by
  simp only [dOk, Bool.and_eq_true] at h
  exact h.1

theorem gOk_of {d : Option (List Nat)} {i : Nat} {o : Oper} {m m' : Mem} (h : m'.G = m.G) : gOk d i o m m' = true := by
  cases d with
  | none => rfl
  | some mx => simp only [gOk, h, decide_true, Bool.or_true]

theorem step_P {T : Tab} {orc : Orc} {mx : List Nat} {n : Nat} {ops : List Oper} {o : Oper} {k base : Nat} {ts : List AV} (hp : isP T o = true) : ∃ r : Option AV, ∀ m, step T orc mx n ops base o k ts m = r.map (·, m) := by
  unfold step
  split
  · cases hok : dOk (some mx) n base (opval ts) default o with
    | false => exact ⟨none, fun m => by rw [dOk_P hp m default, hok]; rfl⟩
    | true =>
      obtain ⟨r, hr⟩ := sem_P (orc := orc) (k := k) hp (dOk_okD hok)
      refine ⟨r.map (dW (some mx) n o), fun m => ?_⟩
      rw [dOk_P hp m default, hok, hr m]
      cases r with
      | none => rfl
      | some a => simp only [Option.map_some, gOk_of (d := some mx) (i := n) (o := o) (m := m) (m' := m) rfl, Bool.not_true, Bool.false_eq_true, if_false, if_true]
  · exact ⟨some .undef, fun m => rfl⟩
  · exact ⟨none, fun m => rfl⟩

/-! ### operations that read what is older, and lay -/

structure Agree (base : Nat) (m m' : Mem) : Prop where
  L : ∀ i, i < base → m'.L[i]? = m.L[i]?
  G : m'.G = m.G
  ep : m'.ep = m.ep

def RForm (f : Mem → Option (AV × Mem)) (base k : Nat) (lay : Bool) : Prop :=
  ∀ m, ∃ r : Option (AV × Option Ent), (∀ a e, r = some (a, some e) → lay = true) ∧ ∀ m', Agree base m m' → f m' = r.map fun p => (p.1, putE m' k p.2)

theorem agree_get {base : Nat} {m m' : Mem} (h : Agree base m m') {i : Nat} (hi : i < base) : m'.get (.loc i) = m.get (.loc i) := by
  simp only [Mem.get, h.L i hi]

theorem agree_rowAt {base : Nat} {m m' : Mem} (h : Agree base m m') (g j e : Nat) : m'.rowAt g j e = m.rowAt g j e := by
  simp only [Mem.rowAt, h.G, h.ep]

theorem agree_res {base : Nat} {m m' : Mem} (h : Agree base m m') {i : Nat} (hi : i < base) : m'.res (.loc i) = m.res (.loc i) := by
  simp only [Mem.res, h.L i hi]

theorem agree_ent {base : Nat} {m m' : Mem} (h : Agree base m m') {r : Ref} {off : Nat} (ho : old base (.ptr r off) = true) : m'.ent r = m.ent r ∧ m'.res r = m.res r := by
  cases r with
  | loc i =>
    have hi : i < base := by simpa [old] using ho
    refine ⟨?_, agree_res h hi⟩
    simp only [Mem.ent, agree_res h hi]
    cases hr : m.res (.loc i) with
    | loc j =>
      have := res_loc hr
      injection this with this
      subst this
      exact agree_get h hi
    | glob g => simp only [Mem.get, h.G]
  | glob g => exact ⟨by simp only [Mem.ent, Mem.res, Mem.get, h.G], rfl⟩

theorem load_agree {T : Tab} {base : Nat} {m m' : Mem} (h : Agree base m m') {t : TypeId} {a : AV} (ho : old base a = true) : load T m' t a = load T m t a := by
  unfold load
  cases hT : T t with
  | none => rfl
  | some ti =>
    cases a <;> simp only
    case ptr r off =>
      obtain ⟨h1, h2⟩ := agree_ent h ho
      simp only [h1, h2, asVal, h.ep]
    case ept i sz k off => rw [agree_get h (by simpa [old] using ho)]
    case gept g j e sz k off => rw [agree_rowAt h]

theorem rd_agree {base : Nat} {m m' : Mem} (h : Agree base m m') {a : AV} (ho : old base a = true) : rd m' a = rd m a := by
  unfold rd
  cases a <;> try rfl
  case dat d => cases d <;> rfl
  case sh f i sz off len => simp only [agree_get h (by simpa [old] using ho)]
  case gh f g j e sz off len => simp only [agree_rowAt h]

def plainD : List AV → Option (List D)
  | [] => some []
  | .dat d :: r => (plainD r).map (d :: ·)
  | _ => none

theorem snap_plain {m : Mem} : ∀ {cs : List AV}, cs.all plain = true → mapS snap m cs = (plainD cs).map (·, m)
  | [], _ => rfl
  | a :: r, h => by
    simp only [List.all_cons, Bool.and_eq_true] at h
    have ih := snap_plain (m := m) h.2
    cases a <;> simp only [plain] at h <;> first
      | (cases h.1; done)
      | skip
    case dat d =>
      simp only [mapS, snap, ih, plainD]
      cases plainD r <;> rfl
    all_goals rfl

theorem fillP_plain {place : Nat → Option (Nat × Nat)} : ∀ (ps : List (Nat × AV)) (cs cs' : List AV), fillP place cs ps = some cs' → cs.all plain = true → (∀ p ∈ ps, p.2.cells.all plain = true) → cs'.all plain = true
  | [], cs, cs', h, hc, _ => by
    simp only [fillP, Option.some.injEq] at h
    rw [← h]; exact hc
  | (i, v) :: r, cs, cs', h, hc, hp => by
    simp only [fillP] at h
    split at h
    · cases h
    · split at h
      · refine fillP_plain r _ cs' h ?_ fun p hm => hp p (by simp [hm])
        simp only [List.all_eq_true] at hc ⊢
        intro x hx
        simp only [splice, List.mem_append] at hx
        rcases hx with (hx | hx) | hx
        · exact hc x (List.mem_of_mem_take hx)
        · have := hp (i, v) (by simp)
          simp only [List.all_eq_true] at this
          exact this x hx
        · exact hc x (List.mem_of_mem_drop hx)
      · cases h

theorem zero_plain {P : Program} {T : Tab} (hT : TabOk P T) {t : TypeId} {ti : TI} (h : T t = some ti) : ti.zero.all plain = true := by
  obtain ⟨_, _, z, f⟩ := hT.facts h
  have hz := f.zeros
  generalize ti.zero = as at hz
  generalize z.cells.toList = vs at hz
  induction as generalizing vs with
  | nil => rfl
  | cons a r ih =>
    cases vs with
    | nil => simp [zerosOk] at hz
    | cons v s =>
      simp only [zerosOk, Bool.and_eq_true] at hz
      simp only [List.all_cons, Bool.and_eq_true]
      refine ⟨?_, ih s hz.2⟩
      have := hz.1
      unfold zeroOk at this
      split at this <;> first | rfl | cases this

theorem zeroCells_plain {z : List AV} (h : z.all plain = true) : ∀ n, (zeroCells z n).all plain = true
  | 0 => rfl
  | n + 1 => by simp only [zeroCells, List.all_append, h, zeroCells_plain h n, Bool.and_self]

theorem keep_not {m : Mem} : ∀ {cs : List AV}, cs.all notGh = true → mapS keep m cs = some (cs, m)
  | [], _ => rfl
  | a :: r, h => by
    simp only [List.all_cons, Bool.and_eq_true] at h
    have ih := keep_not (m := m) h.2
    have : keep m a = some (a, m) := by
      unfold keep
      split
      · simp [notGh] at h
      · rfl
    simp only [mapS, this, ih]

theorem sem_R {P : Program} {T : Tab} (hT : TabOk P T) {orc : Orc} {o : Oper} {k base : Nat} {v : Operand → AV} (hr : isR o = true) (hok : okD base v o = true) : RForm (sem T orc o k v) base k (lays o) := by
  unfold isR at hr
  unfold okD at hok
  intro m
  cases hop : o.op <;> simp only [hop] at hr hok <;> first
    | (cases hr; done)
    | skip
  case load t a =>
    refine ⟨(load T m t (v a)).map (·, none), fun a' e h => ?_, fun m' hm => ?_⟩
    · obtain ⟨_, _, h⟩ := map_some h
      cases h
    · simp only [sem, hop, load_agree hm hok]
      cases load T m t (v a) <;> rfl
  case convert s d x =>
    refine ⟨convertP T (rd m (v x)) k s d (v x), fun _ _ _ => by simp [lays, hop], fun m' hm => ?_⟩
    simp only [sem, hop, convert, rd_agree hm hok]
  case alloc t =>
    refine ⟨(T t).map fun ti => (.ptr (.loc k) 0, some (.obj ti.zero)), fun _ _ _ => by simp [lays, hop], fun m' hm => ?_⟩
    simp only [sem, hop, alloc]
    cases T t <;> rfl
  case box t x =>
    refine ⟨if (v x).cells.all AV.leaf = true then some (.ptr (.loc k) 0, some (.obj (v x).cells)) else none, fun _ _ _ => by simp [lays, hop], fun m' hm => ?_⟩
    simp only [sem, hop, box, keep_not hok]
    split <;> rfl
  case buildSlice t n ps =>
    have hps : ∀ p ∈ ps.toList.map (fun p => (p.1, v p.2)), p.2.cells.all plain = true := by
      intro p hp
      obtain ⟨q, hq, rfl⟩ := List.mem_map.1 hp
      simp only [List.all_eq_true] at hok
      simp only [List.all_eq_true]
      exact hok q hq
    have key : ∀ qs : List (Nat × AV), (∀ p ∈ qs, p.2.cells.all plain = true) → ∃ r : Option (AV × Option Ent), ∀ m', buildSlice T m' k t n qs = r.map fun p => (p.1, putE m' k p.2) := by
      intro qs hqs
      unfold buildSlice
      cases hti : T t with
      | none => exact ⟨none, fun m' => rfl⟩
      | some ti =>
        simp only
        cases hk : ti.k with
        | slice e =>
          simp only
          cases hte : T e with
          | none => exact ⟨none, fun m' => rfl⟩
          | some te =>
            simp only
            split
            · rename_i hc
              cases hf : fillP (fun i => some (i * te.size, te.size)) (zeroCells te.zero n) qs with
              | none => exact ⟨none, fun m' => rfl⟩
              | some cs =>
                have hpl := fillP_plain qs _ cs hf (zeroCells_plain (zero_plain hT hte) n) hqs
                simp only [snap_plain hpl]
                cases plainD cs with
                | none => exact ⟨none, fun m' => rfl⟩
                | some ds => exact ⟨some (.sh true k te.size 0 n, some (.row .excl te.size (chunks te.size n ds))), fun m' => rfl⟩
            · exact ⟨none, fun m' => rfl⟩
        | _ => exact ⟨none, fun m' => rfl⟩
    obtain ⟨r, h⟩ := key _ hps
    exact ⟨r, fun _ _ _ => by simp [lays, hop], fun m' _ => by simp only [sem, hop]; exact h m'⟩
  case makeSlice t x y =>
    have key : ∀ X Y : AV, ∃ r : Option (AV × Option Ent), ∀ m', makeSlice T m' k t X Y = r.map fun p => (p.1, putE m' k p.2) := by
      intro X Y
      unfold makeSlice
      split
      · cases hti : T t with
        | none => exact ⟨none, fun m' => rfl⟩
        | some ti =>
          simp only
          cases hk : ti.k with
          | slice e =>
            simp only
            cases hte : T e with
            | none => exact ⟨none, fun m' => rfl⟩
            | some te =>
              simp only [snap_plain (zero_plain hT hte)]
              cases plainD te.zero with
              | none => exact ⟨none, fun m' => rfl⟩
              | some z =>
                simp only [Option.map_some]
                split
                · exact ⟨some (_, some _), fun m' => rfl⟩
                · exact ⟨none, fun m' => rfl⟩
          | _ => exact ⟨none, fun m' => rfl⟩
      · exact ⟨none, fun m' => rfl⟩
    obtain ⟨r, h⟩ := key (v x) (v y)
    exact ⟨r, fun _ _ _ => by simp [lays, hop], fun m' _ => by simp only [sem, hop]; exact h m'⟩

theorem dOk_agree {mx : List Nat} {n base : Nat} {v : Operand → AV} {m m' : Mem} (h : Agree base m m') (o : Oper) : dOk (some mx) n base v m' o = dOk (some mx) n base v m o := by
  have e : okM (roM mx) base v m' o = okM (roM mx) base v m o := by
    unfold okM
    split
    · split
      · rfl
      · rename_i i _ _
        by_cases hi : i < base
        · rw [h.L i hi]
        · simp [hi]
      · rfl
      · rfl
    · rfl
    · rfl
  simp only [dOk, e]

theorem putE_G {m : Mem} {k : Nat} {e : Option Ent} : (putE m k e).G = m.G := by cases e <;> rfl

theorem step_R {P : Program} {T : Tab} (hT : TabOk P T) {orc : Orc} {mx : List Nat} {n : Nat} {ops : List Oper} {o : Oper} {k base : Nat} {ts : List AV} (hr : isR o = true) : RForm (step T orc mx n ops base o k ts) base k (lays o) := by
  intro m
  unfold step
  cases goes ops ts o with
  | none => exact ⟨none, fun _ _ h => (by cases h), fun m' hm => rfl⟩
  | some b =>
    cases b with
    | false => exact ⟨some (.undef, none), fun _ _ h => (by simp at h), fun m' hm => rfl⟩
    | true =>
      cases hok : dOk (some mx) n base (opval ts) m o with
      | false => exact ⟨none, fun _ _ h => (by cases h), fun m' hm => by simp only [dOk_agree hm, hok]; rfl⟩
      | true =>
        obtain ⟨r, h1, h2⟩ := sem_R hT (orc := orc) (k := k) hr (dOk_okD hok) m
        refine ⟨r.map fun p => (dW (some mx) n o p.1, p.2), fun a e h => ?_, fun m' hm => ?_⟩
        · obtain ⟨p, hp, h⟩ := Option.map_eq_some_iff.1 h
          simp only [Prod.mk.injEq] at h
          obtain ⟨p1, p2⟩ := p
          simp only at h
          rw [h.2] at hp
          exact h1 _ _ hp
        · simp only [dOk_agree hm, hok, h2 m' hm]
          cases r with
          | none => rfl
          | some p => simp only [Option.map_some, gOk_of (d := some mx) (i := n) (o := o) (m := m') putE_G, Bool.not_true, Bool.false_eq_true, if_false, if_true]

/-! ### a load beside a call -/

def isRowO : Option (Option Ent) → Bool
  | some (some (.row _ _ _)) => true
  | _ => false

/-- own objects are alike; everybody's, where that is asked -/
def Same2 (base : Nat) (ro : Bool) (m m' : Mem) : Prop := (∀ i : Nat, i < base → isPinO m.L[i]? = true → m'.L[i]? = m.L[i]?) ∧ (ro = true → m'.G = m.G)

/-- own entities are alike, but for rows -/
def LRel (m m' : Mem) : Prop := ∀ i : Nat, m'.L[i]? = m.L[i]? ∨ (isRowO m.L[i]? = true ∧ isRowO m'.L[i]? = true)

theorem LRel.refl (m : Mem) : LRel m m := fun _ => .inl rfl

theorem LRel.trans {a b c : Mem} (h1 : LRel a b) (h2 : LRel b c) : LRel a c := fun i => by
  rcases h1 i with h1 | ⟨h1, h1'⟩ <;> rcases h2 i with h2 | ⟨h2, h2'⟩
  · exact .inl (h2.trans h1)
  · rw [h1] at h2; exact .inr ⟨h2, h2'⟩
  · rw [← h2] at h1'; exact .inr ⟨h1, h1'⟩
  · exact .inr ⟨h1, h2'⟩

theorem pin_row {x : Option (Option Ent)} (h : isPinO x = true) (h2 : isRowO x = true) : False := by
  unfold isPinO at h
  unfold isRowO at h2
  split at h <;> first | (cases h; done) | cases h2

theorem snap_L {m m' : Mem} {a : AV} {d : D} (h : snap m a = some (d, m')) : LRel m m' := by
  unfold snap at h
  split at h
  · simp only [Option.some.injEq, Prod.mk.injEq] at h; rw [← h.2]; exact .refl _
  · rename_i f i sz off len
    split at h
    · rename_i md sz' xs hm
      split at h
      · simp only [Option.some.injEq, Prod.mk.injEq] at h
        rw [← h.2]
        cases md with
        | excl =>
          intro j
          simp only [Mem.set]
          by_cases hj : j = i
          · subst hj
            right
            have hL : m.L[j]? = some (some (.row .excl sz' xs)) := by
              simp only [Mem.get] at hm
              split at hm
              · rename_i o ho
                rw [ho, hm]
              · cases hm
            rw [hL]
            refine ⟨rfl, ?_⟩
            obtain ⟨hlt, _⟩ := List.getElem?_eq_some_iff.1 hL
            rw [List.getElem?_set_self hlt]
            rfl
          · left
            rw [List.getElem?_set_ne (fun e => hj e.symm)]
        | own => exact .refl _
        | ro => exact .refl _
      · cases h
    · cases h
  · split at h
    · rename_i md sz' xs hm
      split at h
      · simp only [Option.some.injEq, Prod.mk.injEq] at h
        rw [← h.2]
        cases md with
        | excl =>
          intro j
          left
          show (Mem.setRow _ _ _ _).L[j]? = _
          unfold Mem.setRow
          split <;> rfl
        | own => exact .refl _
        | ro => exact .refl _
      · cases h
    · cases h
  · cases h

theorem pass1_L {m m' : Mem} {a b : AV} (h : pass1 m a = some (b, m')) : LRel m m' := by
  unfold pass1 at h
  split at h
  all_goals first
    | (cases h; done)
    | (simp only [Option.some.injEq, Prod.mk.injEq] at h; rw [← h.2]; exact .refl _)
    | skip
  · split at h
    · rename_i d m1 hs
      simp only [Option.some.injEq, Prod.mk.injEq] at h
      rw [← h.2]
      exact snap_L hs
    · cases h
  · split at h
    · rename_i d m1 hs
      simp only [Option.some.injEq, Prod.mk.injEq] at h
      rw [← h.2]
      exact snap_L hs
    · cases h
  · split at h
    · simp only [Option.some.injEq, Prod.mk.injEq] at h; rw [← h.2]; exact .refl _
    · cases h

theorem mapS_L {f : Mem → AV → Option (AV × Mem)} : ∀ (l : List AV) (m : Mem) (r : List AV) (m' : Mem), (∀ m a b m', a ∈ l → f m a = some (b, m') → LRel m m') → mapS f m l = some (r, m') → LRel m m'
  | [], m, r, m', _, h => by
    simp only [mapS, Option.some.injEq, Prod.mk.injEq] at h
    rw [← h.2]; exact .refl _
  | a :: l, m, r, m', hf, h => by
    simp only [mapS] at h
    split at h
    · rename_i b m1 h1
      split at h
      · rename_i bs m2 h2
        simp only [Option.some.injEq, Prod.mk.injEq] at h
        rw [← h.2]
        exact (hf m a b m1 (by simp) h1).trans (mapS_L l m1 bs m2 (fun m a b m' ha => hf m a b m' (by simp [ha])) h2)
      · cases h
    · cases h

theorem pass_L {m m' : Mem} {a b : AV} (hn : noLocA a = true) (h : pass m a = some (b, m')) : LRel m m' := by
  unfold pass at h
  split at h
  · split at h
    · rename_i ds m1 hs
      simp only [Option.some.injEq, Prod.mk.injEq] at h
      rw [← h.2]
      exact mapS_L _ _ _ _ (fun _ _ _ _ _ h => pass1_L h) hs
    · cases h
  · split at h
    · rename_i ds m1 hs
      simp only [Option.some.injEq, Prod.mk.injEq] at h
      rw [← h.2]
      exact mapS_L _ _ _ _ (fun _ _ _ _ _ h => pass1_L h) hs
    · cases h
  · rename_i r off
    cases r with
    | loc i => simp [noLocA] at hn
    | glob g =>
      simp only [give, givePtr, Mem.res, Option.some.injEq, Prod.mk.injEq] at h
      rw [← h.2]; exact .refl _
  · exact pass1_L h

theorem take_L {m m' : Mem} {k : Nat} {a b : AV} (h : take m k a = some (b, m')) : ∀ i : Nat, i ≠ k → m'.L[i]? = m.L[i]? := by
  intro i hi
  unfold take at h
  split at h
  · simp only [Option.some.injEq, Prod.mk.injEq] at h
    rw [← h.2]
    simp only [Mem.set]
    rw [List.getElem?_set_ne (fun e => hi e.symm)]
  all_goals first
    | (cases h; done)
    | (simp only [Option.some.injEq, Prod.mk.injEq] at h; rw [← h.2])

theorem callF_L {orc : Orc} {m m' : Mem} {k : Nat} {f : FuncId} {args : List AV} {b : AV} (hn : args.all noLocA = true) (h : callF orc m k f args = some (b, m')) :
    ∀ i : Nat, i ≠ k → m'.L[i]? = m.L[i]? ∨ (isRowO m.L[i]? = true ∧ isRowO m'.L[i]? = true) := by
  intro i hi
  unfold callF at h
  split at h
  · rename_i as m1 h1
    split at h
    · rename_i r G h2
      have h3 := take_L h i hi
      have h4 := mapS_L _ _ _ _ (fun _ a _ _ ha h => pass_L (List.all_eq_true.1 hn a ha) h) h1 i
      rw [h3]
      exact h4
    · cases h
  · cases h

theorem step_Cv {T : Tab} {orc : Orc} {mx : List Nat} {n : Nat} {ops : List Oper} {o : Oper} {k base : Nat} {ts : List AV} {m m' : Mem} {b : AV} (hc : isCv o = true) (hm : mx.contains n = true) (hk : base ≤ k)
    (h : step T orc mx n ops base o k ts m = some (b, m')) : Same2 base (roM mx) m m' ∧ Same2 base (roM mx) m' m := by
  have key : (∀ i : Nat, i < base → m'.L[i]? = m.L[i]? ∨ (isRowO m.L[i]? = true ∧ isRowO m'.L[i]? = true)) ∧ (roM mx = true → m'.G = m.G) := by
    unfold step at h
    split at h
    · split at h
      · cases h
      · rename_i hok
        simp only [dOk, hm, Bool.not_true, Bool.false_or, Bool.not_eq_true, Bool.not_eq_false', Bool.and_eq_true] at hok
        have hok := hok.2
        split at h
        · rename_i a m1 hsem
          split at h
          · rename_i hg
            simp only [Option.some.injEq, Prod.mk.injEq] at h
            obtain ⟨_, rfl⟩ := h
            constructor
            · intro i hi
              have hc2 := hc
              unfold isCv at hc2
              split at hc2
              · rename_i c hop
                split at hc2
                · rename_i f hcal
                  simp only [okM, hop, hcal, Bool.and_eq_true] at hok
                  simp only [sem, hop, call, hcal] at hsem
                  split at hsem
                  · rename_i g caps hv
                    simp only [hv] at hok
                    refine callF_L ?_ hsem i (by omega)
                    rw [List.all_append, Bool.and_eq_true, List.all_map]
                    exact ⟨hok.1, hok.2⟩
                  · cases hsem
                · cases hc2
              · cases hc2
            · intro hro
              simp only [gOk, hm, hro, hc, Bool.and_self, Bool.not_true, Bool.false_or, decide_eq_true_eq] at hg
              exact hg
          · cases h
        · cases h
    · simp only [Option.some.injEq, Prod.mk.injEq] at h
      rw [← h.2]; exact ⟨fun _ _ => .inl rfl, fun _ => rfl⟩
    · cases h
  refine ⟨⟨fun i hi ho => ?_, key.2⟩, ⟨fun i hi ho => ?_, fun hr => (key.2 hr).symm⟩⟩
  · rcases key.1 i hi with h1 | ⟨h1, _⟩
    · exact h1
    · exact (pin_row ho h1).elim
  · rcases key.1 i hi with h1 | ⟨_, h1⟩
    · exact h1.symm
    · exact (pin_row ho h1).elim

theorem asVal_weak {m m2 : Mem} {w : Option (Nat × Nat)} {agg : Bool} {cs : List AV} : (asVal m2 w agg cs).map weak = (asVal m w agg cs).map weak := by
  unfold asVal
  split
  · rfl
  · split
    · split <;> rfl
    · rfl
    · rfl

theorem load_weak {T : Tab} {m m2 : Mem} {t : TypeId} {r : Ref} {off : Nat} (h1 : m2.res r = m.res r) (h2 : m2.get (m.res r) = m.get (m.res r)) : (load T m2 t (.ptr r off)).map weak = (load T m t (.ptr r off)).map weak := by
  unfold load
  cases T t with
  | none => rfl
  | some ti =>
    simp only [Mem.ent, h1, h2]
    split
    · split
      · exact asVal_weak
      · rfl
    · rfl

theorem step_Ld {T : Tab} {orc : Orc} {mx : List Nat} {n : Nat} {ops : List Oper} {o : Oper} {k base : Nat} {ts : List AV} {m m' : Mem} {a : AV} (hl : isLd o = true) (hm : mx.contains n = true)
    (h : step T orc mx n ops base o k ts m = some (a, m')) : m' = m ∧ ∀ m2, Same2 base (roM mx) m m2 → step T orc mx n ops base o k ts m2 = some (a, m2) := by
  have hl2 := hl
  unfold isLd at hl2
  split at hl2
  · rename_i t x hop
    unfold step at h ⊢
    split at h
    · rename_i hg
      split at h
      · cases h
      · rename_i hok
        simp only [dOk, hm, Bool.not_true, Bool.false_or, Bool.not_eq_true, Bool.not_eq_false', Bool.and_eq_true] at hok
        split at h
        · rename_i a0 m1 hsem
          simp only [sem, hop] at hsem
          obtain ⟨a1, h1, h2⟩ := Option.map_eq_some_iff.1 hsem
          simp only [Prod.mk.injEq] at h2
          obtain ⟨rfl, rfl⟩ := h2
          simp only [gOk_of (d := some mx) (i := n) (o := o) (m := m) (m' := m) rfl, if_true, Option.some.injEq, Prod.mk.injEq] at h
          obtain ⟨rfl, rfl⟩ := h
          refine ⟨rfl, fun m2 hs => ?_⟩
          have hM := hok.2
          simp only [okM, hop] at hM
          have both : okM (roM mx) base (opval ts) m2 o = true ∧ ∃ a2, load T m2 t (opval ts x) = some a2 ∧ dW (some mx) n o a2 = dW (some mx) n o a1 := by
            simp only [okM, hop]
            have ro_case : ∀ (r : Ref) (off : Nat), opval ts x = .ptr r off → roM mx = true → m2.res r = m.res r → m2.get (m.res r) = m.get (m.res r) → ∃ a2, load T m2 t (opval ts x) = some a2 ∧ dW (some mx) n o a2 = dW (some mx) n o a1 := by
              intro r off hx hro q1 q2
              rw [hx] at h1 ⊢
              have hw := load_weak (T := T) (t := t) (off := off) q1 q2
              rw [h1] at hw
              obtain ⟨a2, e1, e2⟩ := Option.map_eq_some_iff.1 hw
              refine ⟨a2, e1, ?_⟩
              simp only [dW, hm, hro, hl, Bool.and_self, if_true]
              exact e2
            split at hM
            · rename_i s1 xs1 k1 o1 hx
              rw [hx] at h1 ⊢
              exact ⟨rfl, a1, h1, rfl⟩
            · rename_i i off hx
              simp only [Bool.and_eq_true, decide_eq_true_eq] at hM
              have hpin : isPinO m.L[i]? = true := by
                have := hM.2
                unfold pinOk at this
                split at this
                · rename_i cs hL; rw [hL]; rfl
                · rename_i g hL; rw [hL]; rfl
                · cases this
              have hL := hs.1 i hM.1 hpin
              simp only [hx]
              refine ⟨by rw [hL]; simp [hM.1, hM.2], ?_⟩
              have q1 : m2.res (.loc i) = m.res (.loc i) := by simp only [Mem.res, hL]
              have hp2 := hM.2
              unfold pinOk at hp2
              split at hp2
              · rename_i cs hLi
                have r1 : m.res (.loc i) = .loc i := by simp only [Mem.res, hLi]
                have r2 : m2.res (.loc i) = .loc i := by rw [q1, r1]
                rw [hx] at h1
                refine ⟨a1, ?_, rfl⟩
                rw [← h1]
                unfold load
                simp only [Mem.ent, r1, r2, Mem.get, hL]
                cases T t with
                | none => rfl
                | some ti =>
                  simp only
                  split
                  · rename_i cs _
                    cases cellsAt cs off ti.size with
                    | none => rfl
                    | some l => rfl
                  · rfl
              · rename_i g hLi
                have r1 : m.res (.loc i) = .glob g := by simp only [Mem.res, hLi]
                have := ro_case (.loc i) off hx hp2 q1 (by rw [r1]; simp only [Mem.get, hs.2 hp2])
                rw [hx] at this
                exact this
              · cases hp2
            · rename_i g off hx
              have := ro_case (.glob g) off hx hM rfl (by simp only [Mem.res, Mem.get, hs.2 hM])
              simp only [hx]
              rw [hx] at this
              exact ⟨hM, this⟩
            · cases hM
          obtain ⟨b1, a2, b2, b3⟩ := both
          have hd : dOk (some mx) n base (opval ts) m2 o = true := by
            simp only [dOk, hm, Bool.not_true, Bool.false_or, Bool.and_eq_true]
            exact ⟨hok.1, b1⟩
          simp only [hg, hd, Bool.not_true, Bool.false_eq_true, if_false, sem, hop, b2, Option.map_some, gOk_of (d := some mx) (i := n) (o := o) (m := m2) (m' := m2) rfl, if_true, b3]
        · cases h
    · rename_i hg
      simp only [Option.some.injEq, Prod.mk.injEq] at h
      obtain ⟨rfl, rfl⟩ := h
      exact ⟨rfl, fun m2 _ => by simp only [hg]⟩
    · cases h
  · cases hl2

theorem free_mono {T : Tab} {ops : List Oper} {mx mx' : List Nat} {i j : Nat} {x y : Oper} (hs : ∀ k, mx.contains k = true → mx'.contains k = true) (h : free T ops mx i j x y = true) : free T ops mx' i j x y = true := by
  unfold free at h ⊢
  simp only [Bool.and_eq_true, Bool.or_eq_true] at h ⊢
  refine ⟨⟨h.1.1.imp id fun q => ⟨q.1, hs _ q.2.1, hs _ q.2.2⟩, h.1.2⟩, h.2⟩

/-! ### two that may go in either order -/

theorem putT_comm (ts : List AV) {x y : Option Nat} (a b : AV) (h : ∀ d, x = some d → y ≠ some d) : putT (putT ts x a) y b = putT (putT ts y b) x a := by
  cases x with
  | none => rfl
  | some d =>
    cases y with
    | none => rfl
    | some e =>
      have hne : d ≠ e := fun he => h d rfl (he ▸ rfl)
      exact List.set_comm _ _ hne

theorem free_spec {T : Tab} {ops : List Oper} {mx : List Nat} {i j : Nat} {x y : Oper} (h : free T ops mx i j x y = true) :
    ((isP T x || isP T y || (isR x && isR y) || (((isLd x && isCv y) || (isCv x && isLd y)) && (mx.contains i && mx.contains j))) = true) ∧ (∀ d, x.dst = some d → (looks ops y).contains d = false) ∧ (∀ d, x.dst = some d → y.dst ≠ some d) ∧ (∀ d, y.dst = some d → (looks ops x).contains d = false) := by
  unfold free at h
  simp only [Bool.and_eq_true] at h
  obtain ⟨⟨h1, h2⟩, h3⟩ := h
  refine ⟨h1, fun d hd => ?_, fun d hd => ?_, fun d hd => ?_⟩
  · rw [hd] at h2; simp only [Bool.and_eq_true, Bool.not_eq_true'] at h2; exact h2.1
  · rw [hd] at h2; simp only [Bool.and_eq_true, bne_iff_ne] at h2; exact h2.2
  · rw [hd] at h3; simpa using h3

theorem agree_put {base k : Nat} {m : Mem} (h : base ≤ k) (e : Option Ent) : Agree base m (putE m k e) := by
  cases e with
  | none => exact ⟨fun _ _ => rfl, rfl, rfl⟩
  | some e =>
    refine ⟨fun i hi => ?_, rfl, rfl⟩
    simp only [putE, Mem.set]
    rw [set_get, if_neg (fun h' => by omega)]

theorem putE_comm {m : Mem} {k k' : Nat} {e e' : Option Ent} (h : ∀ a b, e = some a → e' = some b → k ≠ k') : putE (putE m k e) k' e' = putE (putE m k' e') k e := by
  cases e with
  | none => rfl
  | some a =>
    cases e' with
    | none => rfl
    | some b =>
      have := h a b rfl rfl
      simp only [putE, Mem.set, List.set_comm _ _ this]

/-- **Swap.** -/
theorem swap {P : Program} {T : Tab} (hT : TabOk P T) {orc : Orc} {mx : List Nat} {ops : List Oper} {base x i : Nat} {ox oi : Oper} (hx : ops[x]? = some ox) (hi : ops[i]? = some oi) (hne : x ≠ i) (hf : free T ops mx x i ox oi = true) {st s1 s2 : St}
    (h1 : evOp T orc (some mx) ops base x st = some s1) (h2 : evOp T orc (some mx) ops base i s1 = some s2) : ∃ s, evOp T orc (some mx) ops base i st = some s ∧ evOp T orc (some mx) ops base x s = some s2 := by
  obtain ⟨f1, f2, f3, f4⟩ := free_spec hf
  rw [evOp_step hx] at h1
  rw [evOp_step hi] at h2
  obtain ⟨⟨a, m1⟩, e1, rfl⟩ := Option.map_eq_some_iff.1 h1
  obtain ⟨⟨b, m2⟩, e2, rfl⟩ := Option.map_eq_some_iff.1 h2
  simp only at e1 e2
  rw [step_put f2] at e2
  have fin : ∀ m', step T orc mx i ops base oi (base + rank ops i) st.tmps st.mem = some (b, m') → step T orc mx x ops base ox (base + rank ops x) st.tmps m' = some (a, m2) →
      ∃ s, evOp T orc (some mx) ops base i st = some s ∧ evOp T orc (some mx) ops base x s = some { tmps := putT (putT st.tmps ox.dst a) oi.dst b, mem := m2 } := by
    intro m' q1 q2
    refine ⟨{ tmps := putT st.tmps oi.dst b, mem := m' }, by rw [evOp_step hi, q1]; rfl, ?_⟩
    rw [evOp_step hx]
    simp only
    rw [step_put f4, q2]
    simp only [Option.map_some]
    rw [putT_comm st.tmps a b f3]
  simp only [Bool.or_eq_true, Bool.and_eq_true] at f1
  rcases f1 with ((hp | hp) | ⟨r1, r2⟩) | ⟨hlc, hmx, hmi⟩
  · obtain ⟨r, hr⟩ := step_P (orc := orc) (mx := mx) (n := x) (ops := ops) (k := base + rank ops x) (base := base) (ts := st.tmps) hp
    rw [hr] at e1
    obtain ⟨a', hra, q1⟩ := Option.map_eq_some_iff.1 e1
    simp only [Prod.mk.injEq] at q1
    obtain ⟨rfl, rfl⟩ := q1
    exact fin m2 e2 (by rw [hr, hra]; rfl)
  · obtain ⟨r, hr⟩ := step_P (orc := orc) (mx := mx) (n := i) (ops := ops) (k := base + rank ops i) (base := base) (ts := st.tmps) hp
    rw [hr] at e2
    obtain ⟨b', hrb, q2⟩ := Option.map_eq_some_iff.1 e2
    simp only [Prod.mk.injEq] at q2
    obtain ⟨rfl, rfl⟩ := q2
    exact fin st.mem (by rw [hr, hrb]; rfl) e1
  · obtain ⟨rx, hlx, hrx⟩ := step_R hT (orc := orc) (mx := mx) (n := x) (ops := ops) (k := base + rank ops x) (base := base) (ts := st.tmps) r1 st.mem
    obtain ⟨ri, hli, hri⟩ := step_R hT (orc := orc) (mx := mx) (n := i) (ops := ops) (k := base + rank ops i) (base := base) (ts := st.tmps) r2 st.mem
    rw [hrx st.mem ⟨fun _ _ => rfl, rfl, rfl⟩] at e1
    obtain ⟨⟨a', ea⟩, hra, q1⟩ := Option.map_eq_some_iff.1 e1
    simp only [Prod.mk.injEq] at q1
    obtain ⟨rfl, rfl⟩ := q1
    rw [hri _ (agree_put (by omega) ea)] at e2
    obtain ⟨⟨b', eb⟩, hrb, q2⟩ := Option.map_eq_some_iff.1 e2
    simp only [Prod.mk.injEq] at q2
    obtain ⟨rfl, rfl⟩ := q2
    refine fin (putE st.mem (base + rank ops i) eb) (by rw [hri st.mem ⟨fun _ _ => rfl, rfl, rfl⟩, hrb]; rfl) ?_
    rw [hrx _ (agree_put (by omega) eb), hra]
    simp only [Option.map_some, Option.some.injEq, Prod.mk.injEq, true_and]
    refine (putE_comm fun p q hp hq => ?_).symm
    subst hp hq
    have l1 := hlx _ _ hra
    have l2 := hli _ _ hrb
    rcases Nat.lt_or_gt_of_ne hne with hlt | hlt
    · have := rank_lt hx l1 hlt; omega
    · have := rank_lt hi l2 hlt; omega
  · rcases hlc with ⟨ql, qc⟩ | ⟨qc, ql⟩
    · obtain ⟨rfl, w⟩ := step_Ld ql hmx e1
      exact fin m2 e2 (w m2 (step_Cv qc hmi (by omega) e2).1)
    · obtain ⟨rfl, w⟩ := step_Ld ql hmi e2
      exact fin st.mem (w st.mem (step_Cv qc hmx (by omega) e1).2) e1

theorem evOps_append {T : Tab} {orc : Orc} {d : Option (List Nat)} {ops : List Oper} {base : Nat} : ∀ (l r : List Nat) (st : St), evOps T orc d ops base (l ++ r) st = (evOps T orc d ops base l st).bind (evOps T orc d ops base r)
  | [], r, st => rfl
  | i :: l, r, st => by
    simp only [List.cons_append, evOps]
    cases evOp T orc d ops base i st with
    | none => rfl
    | some s => exact evOps_append l r s

/-- one that is free of all ahead of it may go first -/
theorem to_front {P : Program} {T : Tab} (hT : TabOk P T) {orc : Orc} {mx : List Nat} {ops : List Oper} {base i : Nat} {oi : Oper} (hi : ops[i]? = some oi) : ∀ (pre : List Nat) (st s2 : St),
    (∀ x ∈ pre, x ≠ i ∧ ∃ ox, ops[x]? = some ox ∧ free T ops mx x i ox oi = true) → evOps T orc (some mx) ops base (pre ++ [i]) st = some s2 →
      ∃ s, evOp T orc (some mx) ops base i st = some s ∧ evOps T orc (some mx) ops base pre s = some s2
  | [], st, s2, _, h => by
    simp only [List.nil_append, evOps] at h
    split at h
    · rename_i s hs
      exact ⟨s, hs, h⟩
    · cases h
  | x :: pre, st, s2, hp, h => by
    simp only [List.cons_append, evOps] at h
    split at h
    · rename_i s1 h1
      obtain ⟨s, q1, q2⟩ := to_front hT hi pre s1 s2 (fun y hy => hp y (by simp [hy])) h
      obtain ⟨hne, ox, hox, hfr⟩ := hp x (by simp)
      obtain ⟨s', q3, q4⟩ := swap hT hox hi hne hfr h1 q1
      refine ⟨s', q3, ?_⟩
      simp only [evOps, q4]
      exact q2
    · cases h

end Go.Eng
