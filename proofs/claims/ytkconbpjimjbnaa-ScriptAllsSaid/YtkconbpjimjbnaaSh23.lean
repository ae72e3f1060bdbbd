/- The step that bytes begin with: what the program's Get comes to. -/
import Derived.Test.YtkconbpjimjbnaaSh22
import Derived.Test.YtkconbpjimjbnaaSh20
section
namespace Go.Eng
open Go
set_option maxRecDepth 100000
set_option linter.unusedSimpArgs false

/-- a step -/
structure Stp where
  kind : Int
  node : Int
  at' : Int
  n : Int
  data : ByteArray
  stop : Int
  keep : List Bool

def Stp.zero : Stp := ⟨0, 0, 0, 0, ⟨#[]⟩, 0, []⟩

/-- the steps of reading -/
structure Rs where
  k : Int × RS
  nd : Int × RS
  at' : Int × RS
  n : Int × RS
  p : Int × RS
  f : Int × RS
  b : Option (List UInt8) × RS
  m : Int × RS

def readS (l : List UInt8) : Rs :=
  let k := numS 1 (l, 0)
  let nd := numS 1 k.2
  let at' := numS 2 nd.2
  let n := numS 2 at'.2
  let p := numS 2 n.2
  let f := numS 1 p.2
  let b := if f.1 = 1 then bytesS f.2 else (none, f.2)
  ⟨k, nd, at', n, p, f, b, numS 1 b.2⟩

def keepR (r : Rs) : List Bool × RS × Bool := keepS r.m.1.toNat r.m.2 (decide (r.f.1 > 1))

/-- the step that bytes begin with, how many they are, why there is none -/
def getS (l : List UInt8) : Stp × Int × Int :=
  let r := readS l
  let q := keepR r
  if q.2.2 = true then (Stp.zero, 0, 6) else if q.2.1.2 ≠ 0 then (Stp.zero, 0, 7) else
    (⟨r.k.1, r.nd.1, r.at'.1, r.n.1, ⟨(r.b.1.getD []).toArray⟩, r.p.1, q.1⟩, l.length - q.2.1.1.length, 0)

/-- truths, as a list holds them -/
def KeepD (l : List Bool) (d : D) : Prop := (d = .list .nil 0 [] ∧ l = []) ∨ (d = .list .any 1 (tRow l) ∧ l ≠ [])

def stpV (s : Stp) (d : D) : AV := .agg [.dat (.int .i64 s.kind), .dat (.int .i64 s.node), .dat (.int .i64 s.at'), .dat (.int .i64 s.n), .dat (.str s.data), .dat (.int .i64 s.stop), .dat d]

attribute [local irreducible] fnS loS R42 R43 R45 R47

theorem out23a_inj {k : LK} {xs : Row} : ∀ x y, out23a k xs x = out23a k xs y → x = y := by
  rintro ⟨x1, x2, x3, x4, x5, x6, x7, x8, x9⟩ ⟨y1, y2, y3, y4, y5, y6, y7, y8, y9⟩ h
  simp [out23a, rdr', takr'] at h
  obtain ⟨⟨rfl, rfl, rfl, rfl, rfl, rfl⟩, ⟨rfl, rfl⟩, rfl⟩ := h
  rfl
theorem out23b_inj {k : LK} {xs : Row} : ∀ x y, out23b k xs x = out23b k xs y → x = y := by
  rintro ⟨x1, x2, x3, x4, x5, x6, x7, x8, x9, x10⟩ ⟨y1, y2, y3, y4, y5, y6, y7, y8, y9, y10⟩ h
  simp [out23b, rdr', takr'] at h
  obtain ⟨⟨⟨rfl, rfl, rfl, rfl, rfl, rfl, _⟩, rfl⟩, ⟨rfl, rfl⟩, rfl⟩ := h
  rfl

theorem numS_nat (s : RS) : ∃ m : Nat, (numS 1 s).1 = m ∧ m ≤ 255 := by
  unfold numS
  split
  · exact ⟨0, rfl, by omega⟩
  · split
    · exact ⟨0, rfl, by omega⟩
    · rename_i h
      refine ⟨_, rfl, ?_⟩
      have h1 := val_lt 1 (s.1.take 1) (by simp; omega)
      omega

noncomputable def R23 (a : List AV) (G : List Ent) : Option (AV × List Ent) := (tfn TT (tY 3) lo23 Go.Proofs.Try.f23 a G).run

/-- the end of Get: what is answered -/
def res23 (l : List UInt8) (o : Option (AV × List Ent)) : Prop := ∃ d G', KeepD (getS l).1.keep d ∧ o = some (.tup [stpV (getS l).1 d, .dat (.int .i64 (getS l).2.1), .dat (.int .i64 (getS l).2.2)], G')

theorem wrapLen {l l9 : List UInt8} (hl : l.length ≤ 140737488355328) (h9 : l9.length ≤ 140737488355328) :
    IntKind.wrap .i64 (((List.length (bRow l) : Nat) : Int) - ((l9.length : Nat) : Int)) = (l.length : Int) - (l9.length : Int) := by
  rw [bRow_length]
  exact IntWalk.i64_in _ (by omega)

theorem keepS_left {s : RS} {wr : Bool} : ∀ m, (keepS m s wr).2.1.1.length ≤ s.1.length := by
  intro m
  induction m generalizing s wr with
  | zero => simp [keepS]
  | succ m ih =>
    by_cases h : wr = false ∧ s.2 = 0
    · obtain ⟨rfl, h⟩ := h
      rw [keepS_go h]
      exact Nat.le_trans ih numS_len
    · rw [keepS_stop h]; exact Nat.le_refl _

theorem c47z {l : List UInt8} {a : AV} {wr : Bool} (hr : Rd l a) : R47 [.ptr (.glob 0) 0] [rdr' a 0, takr' wr] = some (out47 [rdr' a 0, takr' wr] (l.length : Int)) := c47 hr

theorem res23_of {l : List UInt8} {s : Stp} {n e : Int} {d : D} {G' : List Ent} (h : getS l = (s, n, e)) (hd : KeepD s.keep d) : res23 l (some (.tup [stpV s d, .dat (.int .i64 n), .dat (.int .i64 e)], G')) := by
  refine ⟨d, G', ?_, ?_⟩ <;> rw [h]
  exact hd

theorem c43s {s : RS} {a : AV} {wr : Bool} {w : Nat} (hr : Rd s.1 a) (hl : s.1.length ≤ 140737488355328) (hw : w = 1 ∨ w = 2) :
    ∃ a', Rd (numS w s).2.1 a' ∧ R43 [.ptr (.glob 1) 0, .dat (.int .i64 (w : Int))] [rdr' a s.2, takr' wr] = some (out43 [rdr' a s.2, takr' wr] ((numS w s).1, a', (numS w s).2.2)) := c43 (l := s.1) (e := s.2) hr hl hw

theorem c45s {s : RS} {a : AV} {wr : Bool} (hr : Rd s.1 a) (hl : s.1.length ≤ 140737488355328) :
    ∃ a', Rd (bytesS s).2.1 a' ∧ R45 [.ptr (.glob 0) 0, .dat (.int .i64 64)] [rdr' a s.2, takr' wr] = some (match (bytesS s).1 with
      | some b => out45y [rdr' a s.2, takr' wr] (bRow b, a', (bytesS s).2.2)
      | none => out45n [rdr' a s.2, takr' wr] (a', (bytesS s).2.2)) := c45 (l := s.1) (e := s.2) hr hl

def getT (l : List UInt8) (r : Rs) (q : List Bool × RS × Bool) : Stp × Int × Int :=
  if q.2.2 = true then (Stp.zero, 0, 6) else if q.2.1.2 ≠ 0 then (Stp.zero, 0, 7) else
    (⟨r.k.1, r.nd.1, r.at'.1, r.n.1, ⟨(r.b.1.getD []).toArray⟩, r.p.1, q.1⟩, l.length - q.2.1.1.length, 0)

theorem getS_of {l : List UInt8} {r : Rs} (h : readS l = r) : getS l = getT l r (keepR r) := by unfold getS getT; rw [h]

theorem getT_ok {l : List UInt8} {r : Rs} {ks : List Bool} {l9 : List UInt8} : getT l r (ks, (l9, 0), false) = ((⟨r.k.1, r.nd.1, r.at'.1, r.n.1, ⟨(r.b.1.getD []).toArray⟩, r.p.1, ks⟩ : Stp), (l.length : Int) - (l9.length : Int), (0 : Int)) := by simp [getT]

theorem getT_err {l : List UInt8} {r : Rs} {ks : List Bool} {l9 : List UInt8} {e9 : Int} (h : e9 ≠ 0) : getT l r (ks, (l9, e9), false) = (Stp.zero, 0, 7) := by simp [getT, h]

theorem bytesS_len {s : RS} : (bytesS s).2.1.length ≤ s.1.length := by
  unfold bytesS
  split
  · exact Nat.le_refl _
  · split
    · exact Nat.le_refl _
    · simp

set_option maxHeartbeats 4000000 in
theorem R23_run {k : LK} {l : List UInt8} (hl : l.length ≤ 140737488355328) : res23 l (R23 [.dat (.list k 1 (bRow l))] []) := by
  show res23 l ((f23t k (bRow l)).run)
  rw [← Tr.ev_run, f23t_eq]
  obtain ⟨a0, h0, e0⟩ := c42 (kb := k) hl
  refine gP (res23 l) (fnS_eq (out := out42 _) out42_inj e0) ?_
  obtain ⟨a1, h1, e1⟩ := c43s (s := (l, 0)) (w := 1) (wr := false) h0 hl (.inl rfl)
  have L1 : (numS 1 (l, 0)).2.1.length ≤ 140737488355328 := Nat.le_trans numS_len hl
  generalize hq1 : numS 1 (l, 0) = q1 at h1 e1 L1
  refine gP (res23 l) (fnS_eq (out := out43 _) out43_inj e1) ?_
  obtain ⟨a2, h2, e2⟩ := c43s (s := q1.2) (w := 1) (wr := false) h1 L1 (.inl rfl)
  have L2 : (numS 1 q1.2).2.1.length ≤ 140737488355328 := Nat.le_trans numS_len L1
  generalize hq2 : numS 1 q1.2 = q2 at h2 e2 L2
  refine gP (res23 l) (fnS_eq (out := out43 _) out43_inj e2) ?_
  obtain ⟨a3, h3, e3⟩ := c43s (s := q2.2) (w := 2) (wr := false) h2 L2 (.inr rfl)
  have L3 : (numS 2 q2.2).2.1.length ≤ 140737488355328 := Nat.le_trans numS_len L2
  generalize hq3 : numS 2 q2.2 = q3 at h3 e3 L3
  refine gP (res23 l) (fnS_eq (out := out43 _) out43_inj e3) ?_
  obtain ⟨a4, h4, e4⟩ := c43s (s := q3.2) (w := 2) (wr := false) h3 L3 (.inr rfl)
  have L4 : (numS 2 q3.2).2.1.length ≤ 140737488355328 := Nat.le_trans numS_len L3
  generalize hq4 : numS 2 q3.2 = q4 at h4 e4 L4
  refine gP (res23 l) (fnS_eq (out := out43 _) out43_inj e4) ?_
  obtain ⟨a5, h5, e5⟩ := c43s (s := q4.2) (w := 2) (wr := false) h4 L4 (.inr rfl)
  have L5 : (numS 2 q4.2).2.1.length ≤ 140737488355328 := Nat.le_trans numS_len L4
  generalize hq5 : numS 2 q4.2 = q5 at h5 e5 L5
  refine gP (res23 l) (fnS_eq (out := out43 _) out43_inj e5) ?_
  obtain ⟨a6, h6, e6⟩ := c43s (s := q5.2) (w := 1) (wr := false) h5 L5 (.inl rfl)
  have L6 : (numS 1 q5.2).2.1.length ≤ 140737488355328 := Nat.le_trans numS_len L5
  generalize hq6 : numS 1 q5.2 = q6 at h6 e6 L6
  refine gP (res23 l) (fnS_eq (out := out43 _) out43_inj e6) ?_
  by_cases c6 : q6.1 = 1
  · refine aTP (res23 l) (by simpa using c6) ?_
    obtain ⟨a7, h7, e7⟩ := c45s (s := q6.2) (wr := decide (q6.1 > 1)) h6 L6
    have L7 : (bytesS q6.2).2.1.length ≤ 140737488355328 := Nat.le_trans bytesS_len L6
    generalize hqb : bytesS q6.2 = qb at h7 e7 L7
    obtain ⟨ob, sb⟩ := qb
    cases ob with
    | some b =>
      simp only at e7
      refine aTP (res23 l) (fnS_yes (o1 := out45y _) out45y_inj e7) (gP (res23 l) (fnS_eq (out := out45y _) out45y_inj e7) (gP (res23 l) (x := b) (by simp only [List.take_length, List.drop_zero]; exact rowBytes_bRow b) ?_))
      obtain ⟨a8, h8, e8⟩ := c43s (s := sb) (w := 1) (wr := decide (q6.1 > 1)) h7 L7 (.inl rfl)
      obtain ⟨m, hm, hm2⟩ := numS_nat sb
      have L8 : (numS 1 sb).2.1.length ≤ 140737488355328 := Nat.le_trans numS_len L7
      obtain ⟨q8, hq8⟩ : ∃ q, q = numS 1 sb := ⟨_, rfl⟩
      rw [← hq8] at h8 e8 hm L8
      refine gP (res23 l) (fnS_eq (out := out43 _) out43_inj e8) ?_
      obtain ⟨a9, h9, hloop⟩ := loop23a (k := k) (xs := bRow l) (kd := q1.1) (nd := q2.1) (at' := q3.1) (nn := q4.1) (s := ⟨b.toArray⟩) (p := q5.1) (m := m) (wr := decide (q6.1 > 1)) (e := q8.2.2) h8 L8 (by omega)
      rw [← hm] at hloop
      have hkr : keepS m (q8.2.1, q8.2.2) (decide (q6.1 > 1)) = keepR ⟨q1, q2, q3, q4, q5, q6, (some b, sb), q8⟩ := by unfold keepR; simp only [hm, Int.toNat_natCast]
      have hrs : readS l = ⟨q1, q2, q3, q4, q5, q6, (some b, sb), q8⟩ := by
        simp only [readS, hq1, hq2, hq3, hq4, hq5, hq6, if_pos c6, hqb, hq8]
      have L9 := keepS_left (s := (q8.2.1, q8.2.2)) (wr := decide (q6.1 > 1)) m
      rw [hkr] at h9 hloop L9
      have hq := getS_of hrs
      generalize keepR ⟨q1, q2, q3, q4, q5, q6, (some b, sb), q8⟩ = q at h9 hloop hq L9
      obtain ⟨ks, ⟨l9, e9⟩, wr9⟩ := q
      replace L9 : l9.length ≤ 140737488355328 := Nat.le_trans L9 L8
      rcases hloop with ⟨hn, hlp⟩ | ⟨hn, hlp⟩
      · refine aTP (res23 l) (loS_yes (o1 := out23a _ _) out23a_inj hlp) (gP (res23 l) (loS_eq (out := out23a _ _) out23a_inj hlp) ?_)
        have hn : ks = [] := hn
        subst hn
        cases wr9 with
        | true =>
          exact aTP (res23 l) rfl (res23_of (s := Stp.zero) (n := 0) (e := 6) hq (.inl ⟨rfl, rfl⟩))
        | false =>
          by_cases he : e9 = 0
          · subst he
            have e47 := c47z (wr := false) h9
            refine aFP (res23 l) rfl (aFP (res23 l) rfl (gP (res23 l) (fnS_eq (out := out47 _) out47_inj e47) ?_))
            rw [wrapLen hl L9]
            exact res23_of (hq.trans getT_ok) (.inl ⟨rfl, rfl⟩)
          · exact aFP (res23 l) rfl (aTP (res23 l) (by simpa using he) (res23_of (hq.trans (getT_err he)) (.inl ⟨rfl, rfl⟩)))
      · refine aFP (res23 l) (loS_no hlp (fun x h => by simp [out23a, out23b] at h)) (gP (res23 l) (loS_eq (out := out23b _ _) out23b_inj hlp) ?_)
        have hn : ks ≠ [] := hn
        cases wr9 with
        | true =>
          exact aTP (res23 l) rfl (res23_of (s := Stp.zero) (n := 0) (e := 6) hq (.inl ⟨rfl, rfl⟩))
        | false =>
          by_cases he : e9 = 0
          · subst he
            have e47 := c47z (wr := false) h9
            refine aFP (res23 l) rfl (aFP (res23 l) rfl (gP (res23 l) (fnS_eq (out := out47 _) out47_inj e47) ?_))
            rw [wrapLen hl L9]
            exact res23_of (hq.trans getT_ok) (.inr ⟨by simp only [List.drop_zero, List.take_length], hn⟩)
          · exact aFP (res23 l) rfl (aTP (res23 l) (by simpa using he) (res23_of (hq.trans (getT_err he)) (.inl ⟨rfl, rfl⟩)))
    | none =>
      simp only at e7
      refine aFP (res23 l) (fnS_no e7 (fun x h => by simp [out45y, out45n] at h)) (gP (res23 l) (fnS_eq (out := out45n _) out45n_inj e7) ?_)
      obtain ⟨a8, h8, e8⟩ := c43s (s := sb) (w := 1) (wr := decide (q6.1 > 1)) h7 L7 (.inl rfl)
      obtain ⟨m, hm, hm2⟩ := numS_nat sb
      have L8 : (numS 1 sb).2.1.length ≤ 140737488355328 := Nat.le_trans numS_len L7
      obtain ⟨q8, hq8⟩ : ∃ q, q = numS 1 sb := ⟨_, rfl⟩
      rw [← hq8] at h8 e8 hm L8
      refine gP (res23 l) (fnS_eq (out := out43 _) out43_inj e8) ?_
      obtain ⟨a9, h9, hloop⟩ := loop23a (k := k) (xs := bRow l) (kd := q1.1) (nd := q2.1) (at' := q3.1) (nn := q4.1) (s := ⟨#[]⟩) (p := q5.1) (m := m) (wr := decide (q6.1 > 1)) (e := q8.2.2) h8 L8 (by omega)
      rw [← hm] at hloop
      have hkr : keepS m (q8.2.1, q8.2.2) (decide (q6.1 > 1)) = keepR ⟨q1, q2, q3, q4, q5, q6, (none, sb), q8⟩ := by unfold keepR; simp only [hm, Int.toNat_natCast]
      have hrs : readS l = ⟨q1, q2, q3, q4, q5, q6, (none, sb), q8⟩ := by
        simp only [readS, hq1, hq2, hq3, hq4, hq5, hq6, if_pos c6, hqb, hq8]
      have L9 := keepS_left (s := (q8.2.1, q8.2.2)) (wr := decide (q6.1 > 1)) m
      rw [hkr] at h9 hloop L9
      have hq := getS_of hrs
      generalize keepR ⟨q1, q2, q3, q4, q5, q6, (none, sb), q8⟩ = q at h9 hloop hq L9
      obtain ⟨ks, ⟨l9, e9⟩, wr9⟩ := q
      replace L9 : l9.length ≤ 140737488355328 := Nat.le_trans L9 L8
      rcases hloop with ⟨hn, hlp⟩ | ⟨hn, hlp⟩
      · refine aTP (res23 l) (loS_yes (o1 := out23a _ _) out23a_inj hlp) (gP (res23 l) (loS_eq (out := out23a _ _) out23a_inj hlp) ?_)
        have hn : ks = [] := hn
        subst hn
        cases wr9 with
        | true =>
          exact aTP (res23 l) rfl (res23_of (s := Stp.zero) (n := 0) (e := 6) hq (.inl ⟨rfl, rfl⟩))
        | false =>
          by_cases he : e9 = 0
          · subst he
            have e47 := c47z (wr := false) h9
            refine aFP (res23 l) rfl (aFP (res23 l) rfl (gP (res23 l) (fnS_eq (out := out47 _) out47_inj e47) ?_))
            rw [wrapLen hl L9]
            exact res23_of (hq.trans getT_ok) (.inl ⟨rfl, rfl⟩)
          · exact aFP (res23 l) rfl (aTP (res23 l) (by simpa using he) (res23_of (hq.trans (getT_err he)) (.inl ⟨rfl, rfl⟩)))
      · refine aFP (res23 l) (loS_no hlp (fun x h => by simp [out23a, out23b] at h)) (gP (res23 l) (loS_eq (out := out23b _ _) out23b_inj hlp) ?_)
        have hn : ks ≠ [] := hn
        cases wr9 with
        | true =>
          exact aTP (res23 l) rfl (res23_of (s := Stp.zero) (n := 0) (e := 6) hq (.inl ⟨rfl, rfl⟩))
        | false =>
          by_cases he : e9 = 0
          · subst he
            have e47 := c47z (wr := false) h9
            refine aFP (res23 l) rfl (aFP (res23 l) rfl (gP (res23 l) (fnS_eq (out := out47 _) out47_inj e47) ?_))
            rw [wrapLen hl L9]
            exact res23_of (hq.trans getT_ok) (.inr ⟨by simp only [List.drop_zero, List.take_length], hn⟩)
          · exact aFP (res23 l) rfl (aTP (res23 l) (by simpa using he) (res23_of (hq.trans (getT_err he)) (.inl ⟨rfl, rfl⟩)))
  · refine aFP (res23 l) (by simpa using c6) ?_
    have h7 := h6
    have L7 := L6
    obtain ⟨a8, h8, e8⟩ := c43s (s := q6.2) (w := 1) (wr := decide (q6.1 > 1)) h7 L7 (.inl rfl)
    obtain ⟨m, hm, hm2⟩ := numS_nat q6.2
    have L8 : (numS 1 q6.2).2.1.length ≤ 140737488355328 := Nat.le_trans numS_len L7
    obtain ⟨q8, hq8⟩ : ∃ q, q = numS 1 q6.2 := ⟨_, rfl⟩
    rw [← hq8] at h8 e8 hm L8
    refine gP (res23 l) (fnS_eq (out := out43 _) out43_inj e8) ?_
    obtain ⟨a9, h9, hloop⟩ := loop23a (k := k) (xs := bRow l) (kd := q1.1) (nd := q2.1) (at' := q3.1) (nn := q4.1) (s := ⟨#[]⟩) (p := q5.1) (m := m) (wr := decide (q6.1 > 1)) (e := q8.2.2) h8 L8 (by omega)
    rw [← hm] at hloop
    have hkr : keepS m (q8.2.1, q8.2.2) (decide (q6.1 > 1)) = keepR ⟨q1, q2, q3, q4, q5, q6, (none, q6.2), q8⟩ := by unfold keepR; simp only [hm, Int.toNat_natCast]
    have hrs : readS l = ⟨q1, q2, q3, q4, q5, q6, (none, q6.2), q8⟩ := by
      simp only [readS, hq1, hq2, hq3, hq4, hq5, hq6, if_neg c6, hq8]
    have L9 := keepS_left (s := (q8.2.1, q8.2.2)) (wr := decide (q6.1 > 1)) m
    rw [hkr] at h9 hloop L9
    have hq := getS_of hrs
    generalize keepR ⟨q1, q2, q3, q4, q5, q6, (none, q6.2), q8⟩ = q at h9 hloop hq L9
    obtain ⟨ks, ⟨l9, e9⟩, wr9⟩ := q
    replace L9 : l9.length ≤ 140737488355328 := Nat.le_trans L9 L8
    rcases hloop with ⟨hn, hlp⟩ | ⟨hn, hlp⟩
    · refine aTP (res23 l) (loS_yes (o1 := out23a _ _) out23a_inj hlp) (gP (res23 l) (loS_eq (out := out23a _ _) out23a_inj hlp) ?_)
      have hn : ks = [] := hn
      subst hn
      cases wr9 with
      | true =>
        exact aTP (res23 l) rfl (res23_of (s := Stp.zero) (n := 0) (e := 6) hq (.inl ⟨rfl, rfl⟩))
      | false =>
        by_cases he : e9 = 0
        · subst he
          have e47 := c47z (wr := false) h9
          refine aFP (res23 l) rfl (aFP (res23 l) rfl (gP (res23 l) (fnS_eq (out := out47 _) out47_inj e47) ?_))
          rw [wrapLen hl L9]
          exact res23_of (hq.trans getT_ok) (.inl ⟨rfl, rfl⟩)
        · exact aFP (res23 l) rfl (aTP (res23 l) (by simpa using he) (res23_of (hq.trans (getT_err he)) (.inl ⟨rfl, rfl⟩)))
    · refine aFP (res23 l) (loS_no hlp (fun x h => by simp [out23a, out23b] at h)) (gP (res23 l) (loS_eq (out := out23b _ _) out23b_inj hlp) ?_)
      have hn : ks ≠ [] := hn
      cases wr9 with
      | true =>
        exact aTP (res23 l) rfl (res23_of (s := Stp.zero) (n := 0) (e := 6) hq (.inl ⟨rfl, rfl⟩))
      | false =>
        by_cases he : e9 = 0
        · subst he
          have e47 := c47z (wr := false) h9
          refine aFP (res23 l) rfl (aFP (res23 l) rfl (gP (res23 l) (fnS_eq (out := out47 _) out47_inj e47) ?_))
          rw [wrapLen hl L9]
          exact res23_of (hq.trans getT_ok) (.inr ⟨by simp only [List.drop_zero, List.take_length], hn⟩)
        · exact aFP (res23 l) rfl (aTP (res23 l) (by simpa using he) (res23_of (hq.trans (getT_err he)) (.inl ⟨rfl, rfl⟩)))

end Go.Eng
end

/- Steps as bytes: the contracts; the law as a tree. -/
section
namespace Go.Eng
open Go
set_option maxRecDepth 100000

theorem FT_fine {f : Nat} {fn : Func} (h : FT f = some fn) : Go.Proofs.Try.prog.funcs[f]? = some fn ∧ (fn.name == "runtime.NumGoroutine") = false ∧ nodupN ((loops (codeOf fn)).map firstRegion) = true := by
  have h2 := BT.get_all (BT.all_ok (q := fun _ fn => !(fn.name == "runtime.NumGoroutine") && nodupN ((loops (codeOf fn)).map firstRegion)) (show FTree.all (fun _ fn => !(fn.name == "runtime.NumGoroutine") && nodupN ((loops (codeOf fn)).map firstRegion)) = true by kernel_rfl)) h
  simp only [Bool.and_eq_true, Bool.not_eq_true'] at h2
  exact ⟨FT_ok h, h2.1, h2.2⟩

theorem U_ok (f : Nat) : COk Go.Proofs.Try.prog f (U f) := tinU_ok TT_ok (FT := FT) (fun _ _ h => FT_fine h) (HS := HSa) (fuel := 6) (base := []) TOk.nil 4 f
theorem tW_ok : TOk Go.Proofs.Try.prog tW := TOk.cons (COk.spec (out := fun _ G => outR G) (U_ok 35)) (TOk.cons (COk.spec (out := fun _ G => outS G) (U_ok 39)) (TOk.cons (COk.spec (out := fun _ G => outS G) (U_ok 40)) TOk.nil))
theorem tVo_ok : TOk Go.Proofs.Try.prog tVo := tinU_ok TT_ok (FT := FT) (fun _ _ h => FT_fine h) (HS := HSa) (fuel := 6) (base := [35, 39, 40]) tW_ok 3

noncomputable def R19 (a : List AV) (G : List Ent) : Option (AV × List Ent) := (tfn TT tVo lo19 Go.Proofs.Try.f19 a G).run
noncomputable def R20 (a : List AV) (G : List Ent) : Option (AV × List Ent) := (tfn TT tVo lo20 Go.Proofs.Try.f20 a G).run
noncomputable def R22 (a : List AV) (G : List Ent) : Option (AV × List Ent) := (tfn TT tNone lo22 Go.Proofs.Try.f22 a G).run
noncomputable def R21 (a : List AV) (G : List Ent) : Option (AV × List Ent) := (tfn TT t21 noLo Go.Proofs.Try.f21 a G).run

theorem lo19_ok : ∀ c, Go.Proofs.Try.f19.body = some c → LoOk2 TT tVo.runs (HSa 19) lo19 c := by
  intro c hc
  refine LoOk2.of c fun b hb st r h => ?_
  have hcc : c = codeOf Go.Proofs.Try.f19 := by unfold codeOf; rw [hc]; rfl
  have hl : loops c = [lp19a, lp19b] := by rw [hcc]; kernel_rfl
  rw [hl] at hb
  rcases List.mem_cons.1 hb with rfl | hb
  · rw [show firstRegion lp19a = 5 from by kernel_rfl] at h
    exact tloU_ok (fun _ _ _ _ h => h) (LoOk2.no _) h
  · obtain rfl := List.mem_singleton.1 hb
    rw [show firstRegion lp19b = 16 from by kernel_rfl] at h
    exact tlo_ok h

theorem lo20_ok : ∀ c, Go.Proofs.Try.f20.body = some c → LoOk2 TT tVo.runs (HSa 20) lo20 c := by
  intro c hc
  refine LoOk2.of c fun b hb st r h => ?_
  have hcc : c = codeOf Go.Proofs.Try.f20 := by unfold codeOf; rw [hc]; rfl
  have hl : loops c = [lp20] := by rw [hcc]; kernel_rfl
  rw [hl] at hb
  obtain rfl := List.mem_singleton.1 hb
  rw [show firstRegion lp20 = 5 from by kernel_rfl] at h
  exact tlo_ok h

theorem lo22_ok : ∀ c, Go.Proofs.Try.f22.body = some c → LoOk2 TT tNone.runs (HSa 22) lo22 c := by
  intro c hc
  refine LoOk2.of c fun b hb st r h => ?_
  have hcc : c = codeOf Go.Proofs.Try.f22 := by unfold codeOf; rw [hc]; rfl
  have hl : loops c = [lp22] := by rw [hcc]; kernel_rfl
  rw [hl] at hb
  obtain rfl := List.mem_singleton.1 hb
  rw [show firstRegion lp22 = 4 from by kernel_rfl] at h
  exact tloB_ok h

theorem lo41_ok : ∀ c, Go.Proofs.Try.f41.body = some c → LoOk2 TT tNone.runs (HSa 41) lo41 c := by
  intro c hc
  refine LoOk2.of c fun b hb st r h => ?_
  have hcc : c = codeOf Go.Proofs.Try.f41 := by unfold codeOf; rw [hc]; rfl
  have hl : loops c = [lp41] := by rw [hcc]; kernel_rfl
  rw [hl] at hb
  obtain rfl := List.mem_singleton.1 hb
  rw [show firstRegion lp41 = 4 from by kernel_rfl] at h
  exact tloB_ok h

theorem lo59_ok : ∀ c, Go.Proofs.Try.f59.body = some c → LoOk2 TT t53.runs (HSa 59) lo59 c := by
  intro c hc
  refine LoOk2.of c fun b hb st r h => ?_
  have hcc : c = codeOf Go.Proofs.Try.f59 := by unfold codeOf; rw [hc]; rfl
  have hl : loops c = [lp59] := by rw [hcc]; kernel_rfl
  rw [hl] at hb
  obtain rfl := List.mem_singleton.1 hb
  rw [show firstRegion lp59 = 7 from by kernel_rfl] at h
  exact tlo_ok h

theorem lo57_ok : ∀ c, Go.Proofs.Try.f57.body = some c → LoOk2 TT tNone.runs (HSa 57) lo57 c := by
  intro c hc
  refine LoOk2.of c fun b hb st r h => ?_
  have hcc : c = codeOf Go.Proofs.Try.f57 := by unfold codeOf; rw [hc]; rfl
  have hl : loops c = [lp57] := by rw [hcc]; kernel_rfl
  rw [hl] at hb
  obtain rfl := List.mem_singleton.1 hb
  rw [show firstRegion lp57 = 7 from by kernel_rfl] at h
  exact tlo_ok h

theorem lo23_ok : ∀ c, Go.Proofs.Try.f23.body = some c → LoOk2 TT (TOrc.runs (tY 3)) (HSa 23) lo23 c := by
  intro c hc
  refine LoOk2.of c fun b hb st r h => ?_
  have hcc : c = codeOf Go.Proofs.Try.f23 := by unfold codeOf; rw [hc]; rfl
  have hl : loops c = [lp23] := by rw [hcc]; kernel_rfl
  rw [hl] at hb
  obtain rfl := List.mem_singleton.1 hb
  rw [show firstRegion lp23 = 6 from by kernel_rfl] at h
  exact tlo2_ok h

theorem t53_ok : TOk Go.Proofs.Try.prog t53 := TOk.cons (U_ok 53) TOk.nil
theorem c59 : COk Go.Proofs.Try.prog 59 R59 := tok_fn TT_ok t53_ok Go.Proofs.Try.func59 (by kernel_rfl) lo59_ok
theorem c57 : COk Go.Proofs.Try.prog 57 R57 := tok_fn TT_ok TOk.nil Go.Proofs.Try.func57 (by kernel_rfl) lo57_ok
theorem t59_ok : TOk Go.Proofs.Try.prog t59 := TOk.cons (COk.spec (out := fun _ G => outN G) c59) (TOk.cons (COk.spec (out := fun _ G => outN G) c57) TOk.nil)
theorem tX_ok (f : Nat) : COk Go.Proofs.Try.prog f (fun a G => (tX f a G).run) := tinU_ok TT_ok (FT := FT) (fun _ _ h => FT_fine h) (HS := HSa) (fuel := 6) (base := [59, 57]) t59_ok 4 f
theorem tR_ok : TOk Go.Proofs.Try.prog tR :=
  TOk.cons (COk.spec (out := fun _ G => out42 G) (tX_ok 42)) (TOk.cons (COk.spec (out := fun _ G => out43 G) (tX_ok 43)) (TOk.cons (COk.spec2 (o1 := fun _ G => out45y G) (o2 := fun _ G => out45n G) (tX_ok 45)) (TOk.cons (COk.spec (out := fun _ G => out47 G) (tX_ok 47)) TOk.nil)))
theorem tY_ok (n : Nat) : TOk Go.Proofs.Try.prog (tY n) := tinU_ok TT_ok (FT := FT) (fun _ _ h => FT_fine h) (HS := HSa) (fuel := 6) (base := [42, 43, 45, 47]) tR_ok n
theorem c23 : COk Go.Proofs.Try.prog 23 R23 := tok_fn TT_ok (tY_ok 3) Go.Proofs.Try.func23 (by kernel_rfl) lo23_ok
theorem c19 : COk Go.Proofs.Try.prog 19 R19 := tok_fn TT_ok tVo_ok Go.Proofs.Try.func19 (by kernel_rfl) lo19_ok
theorem c20 : COk Go.Proofs.Try.prog 20 R20 := tok_fn TT_ok tVo_ok Go.Proofs.Try.func20 (by kernel_rfl) lo20_ok
theorem c22 : COk Go.Proofs.Try.prog 22 R22 := tok_fn TT_ok TOk.nil Go.Proofs.Try.func22 (by kernel_rfl) lo22_ok
theorem c41 : COk Go.Proofs.Try.prog 41 R41 := tok_fn TT_ok TOk.nil Go.Proofs.Try.func41 (by kernel_rfl) lo41_ok
theorem t21_ok : TOk Go.Proofs.Try.prog t21 := TOk.cons (U_ok 34) (TOk.cons (COk.spec (out := fun _ G => fun b : Bool => (AV.dat (.bool b), G)) c41) TOk.nil)
theorem c21 : COk Go.Proofs.Try.prog 21 R21 := tok_fn (H := fun _ => []) TT_ok t21_ok Go.Proofs.Try.func21 (by kernel_rfl) fun _ _ => LoOk2.no _

/-! ### results, among whatever is everybody's -/
def o19y (G : List Ent) (xs : Row) : AV × List Ent := (.tup [.dat (.list .any 1 xs), .dat (.int .i64 0)], G)
def o19n (G : List Ent) (_ : Unit) : AV × List Ent := (.tup [.dat (.list .nil 0 []), .dat (.int .i64 6)], G)
def o20y (G : List Ent) (s : ByteArray) : AV × List Ent := (.tup [.dat (.str s), .dat (.int .i64 0)], G)
def o20n (G : List Ent) (_ : Unit) : AV × List Ent := (.tup [.dat (.str ⟨#[]⟩), .dat (.int .i64 6)], G)
def oB (G : List Ent) (b : Bool) : AV × List Ent := (.dat (.bool b), G)
def oT (G : List Ent) (_ : Unit) : AV × List Ent := (.dat (.bool true), G)
def o23 (G : List Ent) (p : Int × Int × Int × Int × ByteArray × Int × D × Int × Int) : AV × List Ent :=
  (.tup [.agg [.dat (.int .i64 p.1), .dat (.int .i64 p.2.1), .dat (.int .i64 p.2.2.1), .dat (.int .i64 p.2.2.2.1), .dat (.str p.2.2.2.2.1), .dat (.int .i64 p.2.2.2.2.2.1), .dat p.2.2.2.2.2.2.1], .dat (.int .i64 p.2.2.2.2.2.2.2.1), .dat (.int .i64 p.2.2.2.2.2.2.2.2)], G)
noncomputable def P18 := pureS R18
noncomputable def P19 := pureS R19
noncomputable def P20 := pureS R20
noncomputable def P21 := pureS R21
noncomputable def P22 := pureS R22
noncomputable def P23 := pureS R23

noncomputable def t4 : TOrc := tCons 18 (fun a G => tspec (oT G) (P18 a G)) (tCons 19 (fun a G => tspec2 (o19y G) (o19n G) (P19 a G)) (tCons 20 (fun a G => tspec2 (o20y G) (o20n G) (P20 a G))
  (tCons 21 (fun a G => tspec (oB G) (P21 a G)) (tCons 22 (fun a G => tspec (oB G) (P22 a G)) (tCons 23 (fun a G => tspec (o23 G) (P23 a G)) tNone)))))

theorem t4_ok : TOk Go.Proofs.Try.prog t4 := TOk.cons (COk.spec (out := fun _ G => oT G) c18.pure) (TOk.cons (COk.spec2 (o1 := fun _ G => o19y G) (o2 := fun _ G => o19n G) c19.pure) (TOk.cons (COk.spec2 (o1 := fun _ G => o20y G) (o2 := fun _ G => o20n G) c20.pure)
  (TOk.cons (COk.spec (out := fun _ G => oB G) c21.pure) (TOk.cons (COk.spec (out := fun _ G => oB G) c22.pure) (TOk.cons (COk.spec (out := fun _ G => o23 G) c23.pure) TOk.nil)))))

noncomputable def f4t (k nd at' n : Int) (s : ByteArray) (p : Int) (kk : LK) (ks : Row) (k' nd' at'' n' : Int) (s' : ByteArray) (p' : Int) (kk' : LK) (ks' : Row) : Tr (AV × List Ent) :=
  tfn TT t4 noLo Go.Proofs.Try.f4 [stp k nd at' n s p kk ks, stp k' nd' at'' n' s' p' kk' ks'] []

end Go.Eng
end

/- ScriptPuts answers true at any two steps. -/
section
namespace Go.Eng
open Go
set_option maxRecDepth 100000
set_option linter.unusedSimpArgs false

theorem f4t_eq (k nd at' n : Int) (s : ByteArray) (p : Int) (kk : LK) (ks : Row) (k' nd' at'' n' : Int) (s' : ByteArray) (p' : Int) (kk' : LK) (ks' : Row) : (f4t k nd at' n s p kk ks k' nd' at'' n' s' p' kk' ks').ev =
  (rAsk (decide ((((List.length ks) : Nat) : Int) > (300 : Int)))
   (rGet (fnS (fun (x : Unit) => ((AV.dat (D.bool true)), [])) (P18 [] [])) fun x1 =>
    (some ((AV.dat (D.bool true)), []))
   )
   (rAsk (decide ((((List.length ks') : Nat) : Int) > (300 : Int)))
    (rGet (fnS (fun (x : Unit) => ((AV.dat (D.bool true)), [])) (P18 [] [])) fun x2 =>
     (some ((AV.dat (D.bool true)), []))
    )
    (rAsk (decide ((((ByteArray.size s) : Nat) : Int) > (200 : Int)))
     (rGet (fnS (fun (x : Unit) => ((AV.dat (D.bool true)), [])) (P18 [] [])) fun x3 =>
      (some ((AV.dat (D.bool true)), []))
     )
     (rAsk (Option.isSome (fnS (fun (xs : Row) => ((AV.tup [(AV.dat (D.list LK.any 1 xs)), (AV.dat (D.int IntKind.i64 (0 : Int)))]), [])) (P19 [(AV.agg [(AV.dat (D.int IntKind.i64 k)), (AV.dat (D.int IntKind.i64 nd)), (AV.dat (D.int IntKind.i64 at')), (AV.dat (D.int IntKind.i64 n)), (AV.dat (D.str s)), (AV.dat (D.int IntKind.i64 p)), (AV.dat (D.list kk 1 ks))])] [])))
      (rGet (fnS (fun (xs : Row) => ((AV.tup [(AV.dat (D.list LK.any 1 xs)), (AV.dat (D.int IntKind.i64 (0 : Int)))]), [])) (P19 [(AV.agg [(AV.dat (D.int IntKind.i64 k)), (AV.dat (D.int IntKind.i64 nd)), (AV.dat (D.int IntKind.i64 at')), (AV.dat (D.int IntKind.i64 n)), (AV.dat (D.str s)), (AV.dat (D.int IntKind.i64 p)), (AV.dat (D.list kk 1 ks))])] [])) fun x4 =>
       (rAsk (Option.isSome (fnS (fun (s : ByteArray) => ((AV.tup [(AV.dat (D.str s)), (AV.dat (D.int IntKind.i64 (0 : Int)))]), [])) (P20 [(AV.agg [(AV.dat (D.int IntKind.i64 k)), (AV.dat (D.int IntKind.i64 nd)), (AV.dat (D.int IntKind.i64 at')), (AV.dat (D.int IntKind.i64 n)), (AV.dat (D.str s)), (AV.dat (D.int IntKind.i64 p)), (AV.dat (D.list kk 1 ks))])] [])))
        (rGet (fnS (fun (s : ByteArray) => ((AV.tup [(AV.dat (D.str s)), (AV.dat (D.int IntKind.i64 (0 : Int)))]), [])) (P20 [(AV.agg [(AV.dat (D.int IntKind.i64 k)), (AV.dat (D.int IntKind.i64 nd)), (AV.dat (D.int IntKind.i64 at')), (AV.dat (D.int IntKind.i64 n)), (AV.dat (D.str s)), (AV.dat (D.int IntKind.i64 p)), (AV.dat (D.list kk 1 ks))])] [])) fun x5 =>
         (rGet (rowBytes x4) fun x6 =>
          (rAsk (!((ByteArray.toList (ByteArray.mk (List.toArray x6))) == (ByteArray.toList x5)))
           (some ((AV.dat (D.bool false)), []))
           (rGet (fnS (fun (b : Bool) => ((AV.dat (D.bool b)), [])) (P21 [(AV.agg [(AV.dat (D.int IntKind.i64 k)), (AV.dat (D.int IntKind.i64 nd)), (AV.dat (D.int IntKind.i64 at')), (AV.dat (D.int IntKind.i64 n)), (AV.dat (D.str s)), (AV.dat (D.int IntKind.i64 p)), (AV.dat (D.list kk 1 ks))]), (AV.agg [(AV.dat (D.int IntKind.i64 k')), (AV.dat (D.int IntKind.i64 nd')), (AV.dat (D.int IntKind.i64 at'')), (AV.dat (D.int IntKind.i64 n')), (AV.dat (D.str s')), (AV.dat (D.int IntKind.i64 p')), (AV.dat (D.list kk' 1 ks'))])] [])) fun x7 =>
            (rGet (fnS (fun (b : Bool) => ((AV.dat (D.bool b)), [])) (P22 [(AV.agg [(AV.dat (D.int IntKind.i64 k)), (AV.dat (D.int IntKind.i64 nd)), (AV.dat (D.int IntKind.i64 at')), (AV.dat (D.int IntKind.i64 n)), (AV.dat (D.str s)), (AV.dat (D.int IntKind.i64 p)), (AV.dat (D.list kk 1 ks))]), (AV.agg [(AV.dat (D.int IntKind.i64 k')), (AV.dat (D.int IntKind.i64 nd')), (AV.dat (D.int IntKind.i64 at'')), (AV.dat (D.int IntKind.i64 n')), (AV.dat (D.str s')), (AV.dat (D.int IntKind.i64 p')), (AV.dat (D.list kk' 1 ks'))])] [])) fun x8 =>
             (rAsk (!(x7 == x8))
              (some ((AV.dat (D.bool false)), []))
              (rGet (fnS (fun (p : Int × Int × Int × Int × ByteArray × Int × D × Int × Int) => ((AV.tup [(AV.agg [(AV.dat (D.int IntKind.i64 p.1)), (AV.dat (D.int IntKind.i64 p.2.1)), (AV.dat (D.int IntKind.i64 p.2.2.1)), (AV.dat (D.int IntKind.i64 p.2.2.2.1)), (AV.dat (D.str p.2.2.2.2.1)), (AV.dat (D.int IntKind.i64 p.2.2.2.2.2.1)), (AV.dat p.2.2.2.2.2.2.1)]), (AV.dat (D.int IntKind.i64 p.2.2.2.2.2.2.2.1)), (AV.dat (D.int IntKind.i64 p.2.2.2.2.2.2.2.2))]), [])) (P23 [(AV.dat (D.list LK.any 1 x4))] [])) fun x9 =>
               (rGet (fnS (fun (b : Bool) => ((AV.dat (D.bool b)), [])) (P22 [(AV.agg [(AV.dat (D.int IntKind.i64 x9.1)), (AV.dat (D.int IntKind.i64 x9.2.1)), (AV.dat (D.int IntKind.i64 x9.2.2.1)), (AV.dat (D.int IntKind.i64 x9.2.2.2.1)), (AV.dat (D.str x9.2.2.2.2.1)), (AV.dat (D.int IntKind.i64 x9.2.2.2.2.2.1)), (AV.dat x9.2.2.2.2.2.2.1)]), (AV.agg [(AV.dat (D.int IntKind.i64 k)), (AV.dat (D.int IntKind.i64 nd)), (AV.dat (D.int IntKind.i64 at')), (AV.dat (D.int IntKind.i64 n)), (AV.dat (D.str s)), (AV.dat (D.int IntKind.i64 p)), (AV.dat (D.list kk 1 ks))])] [])) fun x10 =>
                (rAsk x10
                 (rAsk (x9.2.2.2.2.2.2.2.1 == (((List.length x4) : Nat) : Int))
                  (rAsk (x9.2.2.2.2.2.2.2.2 == (0 : Int))
                   (rGet (fnS (fun (x : Unit) => ((AV.dat (D.bool true)), [])) (P18 [] [])) fun x11 =>
                    (some ((AV.dat (D.bool true)), []))
                   )
                   (some ((AV.dat (D.bool false)), []))
                  )
                  (some ((AV.dat (D.bool false)), []))
                 )
                 (some ((AV.dat (D.bool false)), []))
                )
               )
              )
             )
            )
           )
          )
         )
        )
        (rGet (fnS (fun (x : Unit) => ((AV.tup [(AV.dat (D.str (ByteArray.mk (List.toArray [])))), (AV.dat (D.int IntKind.i64 (6 : Int)))]), [])) (P20 [(AV.agg [(AV.dat (D.int IntKind.i64 k)), (AV.dat (D.int IntKind.i64 nd)), (AV.dat (D.int IntKind.i64 at')), (AV.dat (D.int IntKind.i64 n)), (AV.dat (D.str s)), (AV.dat (D.int IntKind.i64 p)), (AV.dat (D.list kk 1 ks))])] [])) fun x12 =>
         (rGet (rowBytes x4) fun x13 =>
          (rAsk (!((ByteArray.toList (ByteArray.mk (List.toArray x13))) == []))
           (some ((AV.dat (D.bool false)), []))
           (some ((AV.dat (D.bool false)), []))
          )
         )
        )
       )
      )
      (rGet (fnS (fun (x : Unit) => ((AV.tup [(AV.dat (D.list LK.nil 0 ([] : Row))), (AV.dat (D.int IntKind.i64 (6 : Int)))]), [])) (P19 [(AV.agg [(AV.dat (D.int IntKind.i64 k)), (AV.dat (D.int IntKind.i64 nd)), (AV.dat (D.int IntKind.i64 at')), (AV.dat (D.int IntKind.i64 n)), (AV.dat (D.str s)), (AV.dat (D.int IntKind.i64 p)), (AV.dat (D.list kk 1 ks))])] [])) fun x14 =>
       (rAsk (Option.isSome (fnS (fun (s : ByteArray) => ((AV.tup [(AV.dat (D.str s)), (AV.dat (D.int IntKind.i64 (0 : Int)))]), [])) (P20 [(AV.agg [(AV.dat (D.int IntKind.i64 k)), (AV.dat (D.int IntKind.i64 nd)), (AV.dat (D.int IntKind.i64 at')), (AV.dat (D.int IntKind.i64 n)), (AV.dat (D.str s)), (AV.dat (D.int IntKind.i64 p)), (AV.dat (D.list kk 1 ks))])] [])))
        (rGet (fnS (fun (s : ByteArray) => ((AV.tup [(AV.dat (D.str s)), (AV.dat (D.int IntKind.i64 (0 : Int)))]), [])) (P20 [(AV.agg [(AV.dat (D.int IntKind.i64 k)), (AV.dat (D.int IntKind.i64 nd)), (AV.dat (D.int IntKind.i64 at')), (AV.dat (D.int IntKind.i64 n)), (AV.dat (D.str s)), (AV.dat (D.int IntKind.i64 p)), (AV.dat (D.list kk 1 ks))])] [])) fun x15 =>
         (rAsk (!([] == (ByteArray.toList x15)))
          (some ((AV.dat (D.bool false)), []))
          (some ((AV.dat (D.bool false)), []))
         )
        )
        (rGet (fnS (fun (x : Unit) => ((AV.tup [(AV.dat (D.str (ByteArray.mk (List.toArray [])))), (AV.dat (D.int IntKind.i64 (6 : Int)))]), [])) (P20 [(AV.agg [(AV.dat (D.int IntKind.i64 k)), (AV.dat (D.int IntKind.i64 nd)), (AV.dat (D.int IntKind.i64 at')), (AV.dat (D.int IntKind.i64 n)), (AV.dat (D.str s)), (AV.dat (D.int IntKind.i64 p)), (AV.dat (D.list kk 1 ks))])] [])) fun x16 =>
         (rGet (fnS (fun (b : Bool) => ((AV.dat (D.bool b)), [])) (P21 [(AV.agg [(AV.dat (D.int IntKind.i64 k)), (AV.dat (D.int IntKind.i64 nd)), (AV.dat (D.int IntKind.i64 at')), (AV.dat (D.int IntKind.i64 n)), (AV.dat (D.str s)), (AV.dat (D.int IntKind.i64 p)), (AV.dat (D.list kk 1 ks))]), (AV.agg [(AV.dat (D.int IntKind.i64 k')), (AV.dat (D.int IntKind.i64 nd')), (AV.dat (D.int IntKind.i64 at'')), (AV.dat (D.int IntKind.i64 n')), (AV.dat (D.str s')), (AV.dat (D.int IntKind.i64 p')), (AV.dat (D.list kk' 1 ks'))])] [])) fun x17 =>
          (rGet (fnS (fun (b : Bool) => ((AV.dat (D.bool b)), [])) (P22 [(AV.agg [(AV.dat (D.int IntKind.i64 k)), (AV.dat (D.int IntKind.i64 nd)), (AV.dat (D.int IntKind.i64 at')), (AV.dat (D.int IntKind.i64 n)), (AV.dat (D.str s)), (AV.dat (D.int IntKind.i64 p)), (AV.dat (D.list kk 1 ks))]), (AV.agg [(AV.dat (D.int IntKind.i64 k')), (AV.dat (D.int IntKind.i64 nd')), (AV.dat (D.int IntKind.i64 at'')), (AV.dat (D.int IntKind.i64 n')), (AV.dat (D.str s')), (AV.dat (D.int IntKind.i64 p')), (AV.dat (D.list kk' 1 ks'))])] [])) fun x18 =>
           (rAsk (!(x17 == x18))
            (some ((AV.dat (D.bool false)), []))
            (rGet (fnS (fun (x : Unit) => ((AV.dat (D.bool true)), [])) (P18 [] [])) fun x19 =>
             (some ((AV.dat (D.bool true)), []))
            )
           )
          )
         )
        )
       )
      )
     )
    )
   )
  )
  := by kernel_rfl

/-! ### what was told is read -/

theorem numS_be1 {k : Int} {r : List UInt8} (h : 0 ≤ k ∧ k < 256) : numS 1 (be1 k ++ r, 0) = (k, (r, 0)) := by
  rw [numS_ok (by simp [be1])]
  have : (be1 k ++ r).take 1 = be1 k := by simp [be1]
  rw [this]
  have e : (val (be1 k) : Int) = k := by
    simp only [val, be1, List.foldl_cons, List.foldl_nil, UInt8.toNat_ofNat']
    omega
  rw [e]
  simp [be1]

theorem numS_be2 {k : Int} {r : List UInt8} (h : 0 ≤ k ∧ k < 65536) : numS 2 (be2 k ++ r, 0) = (k, (r, 0)) := by
  rw [numS_ok (by simp [be2])]
  have : (be2 k ++ r).take 2 = be2 k := by simp [be2]
  rw [this]
  have e : (val (be2 k) : Int) = k := by
    simp only [val, be2, List.foldl_cons, List.foldl_nil, UInt8.toNat_ofNat']
    omega
  rw [e]
  simp [be2]

theorem keepS_flags : ∀ (keep : List Bool) (r : List UInt8), keepS keep.length (flags keep ++ r, 0) false = (keep, (r, 0), false)
  | [], r => by simp [keepS, flags]
  | b :: keep, r => by
    have e : numS 1 (flags (b :: keep) ++ r, 0) = (((fl b).toNat : Int), (flags keep ++ r, 0)) := by
      rw [numS_ok (by simp [flags])]
      simp [flags, val]
    rw [List.length_cons, keepS_go rfl, e]
    have h1 : decide (((fl b).toNat : Int) > 1) = false := by cases b <;> rfl
    have h2 : (((fl b).toNat : Int) == 1) = b := by cases b <;> rfl
    simp only [h1, h2, keepS_flags keep r]

theorem getS_putB {k nd at' n : Int} {s : ByteArray} {p : Int} {keep : List Bool} (h : okS k nd at' n s p keep) :
    getS (putB k nd at' n s p keep) = (⟨k, nd, at', n, s, p, keep⟩, ((putB k nd at' n s p keep).length : Int), 0) := by
  obtain ⟨h1, h2, h3, h4, h5, h6, h7⟩ := h
  have hl : (0 : Int) ≤ (keep.length : Int) ∧ (keep.length : Int) < 256 := by omega
  have hf : flags keep = flags keep ++ [] := by simp
  by_cases z : s.size = 0
  · have hs : s.data.toList = [] := List.length_eq_zero_iff.1 (by rw [toList_len, z])
    have hs2 : (⟨#[]⟩ : ByteArray) = s := by rw [← ba_data s, hs]
    obtain ⟨x1, x2, x3, x4, x5, x6, hr⟩ : ∃ x1 x2 x3 x4 x5 x6, readS (putB k nd at' n s p keep) = ⟨(k, x1), (nd, x2), (at', x3), (n, x4), (p, x5), (0, x6), (none, (be1 keep.length ++ flags keep, 0)), ((keep.length : Int), (flags keep, 0))⟩ := by
      refine ⟨(be1 nd ++ (be2 at' ++ (be2 n ++ (be2 p ++ (be1 0 ++ ((be1 keep.length ++ flags keep)))))), 0), (be2 at' ++ (be2 n ++ (be2 p ++ (be1 0 ++ ((be1 keep.length ++ flags keep))))), 0), (be2 n ++ (be2 p ++ (be1 0 ++ ((be1 keep.length ++ flags keep)))), 0), (be2 p ++ (be1 0 ++ ((be1 keep.length ++ flags keep))), 0), (be1 0 ++ ((be1 keep.length ++ flags keep)), 0), ((be1 keep.length ++ flags keep), 0), ?_⟩
      simp only [readS, putB, List.append_assoc, numS_be1 h3, numS_be1 h4, numS_be2 h5, numS_be2 h6, numS_be2 h7, z, if_true, hs, List.nil_append, numS_be1 (show (0 : Int) ≤ 0 ∧ (0 : Int) < 256 by omega), numS_be1 hl, show ¬ (0 : Int) = 1 by omega, if_false]
    rw [getS_of hr]
    have hk : keepR ⟨(k, x1), (nd, x2), (at', x3), (n, x4), (p, x5), (0, x6), (none, (be1 keep.length ++ flags keep, 0)), ((keep.length : Int), (flags keep, 0))⟩ = (keep, ([], 0), false) := by
      unfold keepR
      simp only [Int.toNat_natCast]
      rw [hf]
      exact keepS_flags keep []
    rw [hk, getT_ok]
    simp [hs2]
  · have h64 : s.size = 64 := by omega
    have hb : bytesS (s.data.toList ++ (be1 keep.length ++ flags keep), 0) = (some s.data.toList, (be1 keep.length ++ flags keep, 0)) := by
      have hlen : s.data.toList.length = 64 := by rw [toList_len, h64]
      unfold bytesS
      rw [if_neg (by simp), if_neg (by simp only [List.length_append]; omega)]
      simp only [← hlen, List.take_left, List.drop_left]
    obtain ⟨x1, x2, x3, x4, x5, x6, hr⟩ : ∃ x1 x2 x3 x4 x5 x6, readS (putB k nd at' n s p keep) = ⟨(k, x1), (nd, x2), (at', x3), (n, x4), (p, x5), (1, x6), (some s.data.toList, (be1 keep.length ++ flags keep, 0)), ((keep.length : Int), (flags keep, 0))⟩ := by
      refine ⟨(be1 nd ++ (be2 at' ++ (be2 n ++ (be2 p ++ (be1 1 ++ (s.data.toList ++ (be1 keep.length ++ flags keep)))))), 0), (be2 at' ++ (be2 n ++ (be2 p ++ (be1 1 ++ (s.data.toList ++ (be1 keep.length ++ flags keep))))), 0), (be2 n ++ (be2 p ++ (be1 1 ++ (s.data.toList ++ (be1 keep.length ++ flags keep)))), 0), (be2 p ++ (be1 1 ++ (s.data.toList ++ (be1 keep.length ++ flags keep))), 0), (be1 1 ++ (s.data.toList ++ (be1 keep.length ++ flags keep)), 0), (s.data.toList ++ (be1 keep.length ++ flags keep), 0), ?_⟩
      simp only [readS, putB, List.append_assoc, numS_be1 h3, numS_be1 h4, numS_be2 h5, numS_be2 h6, numS_be2 h7, z, if_true, if_false, numS_be1 (show (0 : Int) ≤ 1 ∧ (1 : Int) < 256 by omega), hb, numS_be1 hl]
    rw [getS_of hr]
    have hk : keepR ⟨(k, x1), (nd, x2), (at', x3), (n, x4), (p, x5), (1, x6), (some s.data.toList, (be1 keep.length ++ flags keep, 0)), ((keep.length : Int), (flags keep, 0))⟩ = (keep, ([], 0), false) := by
      unfold keepR
      simp only [Int.toNat_natCast]
      rw [hf]
      exact keepS_flags keep []
    rw [hk, getT_ok]
    simp

theorem putB_len {k nd at' n : Int} {s : ByteArray} {p : Int} {keep : List Bool} (h : okS k nd at' n s p keep) : (putB k nd at' n s p keep).length ≤ 400 := by
  obtain ⟨h1, h2, _⟩ := h
  simp only [putB, List.length_append, be1_len, be2_len, toList_len, flags, List.length_map]
  omega

/-! ### the callees -/
attribute [local irreducible] fnS loS

theorem p18 {G : List Ent} : P18 [] G = some (oT G ()) := by
  obtain ⟨G', h⟩ := known_run
  exact pureS_eq rfl h rfl

theorem stp_nor {k nd at' n : Int} {s : ByteArray} {p : Int} {kk : LK} {sz : Nat} {ks : Row} : nor1 (stpz k nd at' n s p kk sz ks) = true := rfl

theorem q19 {k nd at' n : Int} {s : ByteArray} {p : Int} {kk : LK} {keep : List Bool} {G : List Ent} : P19 [stp k nd at' n s p kk (tRow keep)] G = some (res19 G (decide (okS k nd at' n s p keep)) (putB k nd at' n s p keep)) := by
  cases h : decide (okS k nd at' n s p keep) with
  | true => exact pureS_eq rfl (by show (f19t k nd at' n s p kk (tRow keep) []).run = _; rw [f19_run, h]; rfl) rfl
  | false => exact pureS_eq rfl (by show (f19t k nd at' n s p kk (tRow keep) []).run = _; rw [f19_run, h]; rfl) rfl

theorem q20 {k nd at' n : Int} {s : ByteArray} {p : Int} {kk : LK} {keep : List Bool} {G : List Ent} : P20 [stp k nd at' n s p kk (tRow keep)] G = some (res20 G (decide (okS k nd at' n s p keep)) (putB k nd at' n s p keep)) := by
  cases h : decide (okS k nd at' n s p keep) with
  | true => exact pureS_eq rfl (by show (f20t k nd at' n s p kk (tRow keep) []).run = _; rw [f20_run, h]; rfl) rfl
  | false => exact pureS_eq rfl (by show (f20t k nd at' n s p kk (tRow keep) []).run = _; rw [f20_run, h]; rfl) rfl

theorem oB_inj {G : List Ent} : ∀ x y, oB G x = oB G y → x = y := by intro x y h; simpa [oB] using h
theorem oT_inj {G : List Ent} : ∀ x y, oT G x = oT G y → x = y := fun _ _ _ => rfl
theorem o19y_inj {G : List Ent} : ∀ x y, o19y G x = o19y G y → x = y := by intro x y h; simpa [o19y] using h
theorem o19n_inj {G : List Ent} : ∀ x y, o19n G x = o19n G y → x = y := fun _ _ _ => rfl
theorem o20y_inj {G : List Ent} : ∀ x y, o20y G x = o20y G y → x = y := by intro x y h; simpa [o20y] using h
theorem o20n_inj {G : List Ent} : ∀ x y, o20n G x = o20n G y → x = y := fun _ _ _ => rfl
theorem o23_inj {G : List Ent} : ∀ x y, o23 G x = o23 G y → x = y := by
  rintro ⟨x1, x2, x3, x4, x5, x6, x7, x8, x9⟩ ⟨y1, y2, y3, y4, y5, y6, y7, y8, y9⟩ h
  simp [o23] at h
  obtain ⟨⟨rfl, rfl, rfl, rfl, rfl, rfl, rfl⟩, rfl, rfl⟩ := h
  rfl

theorem p21 {k nd at' n : Int} {s : ByteArray} {p : Int} {kk : LK} {a : List Bool} {k' nd' at'' n' : Int} {s' : ByteArray} {p' : Int} {kk' : LK} {b : List Bool} {G : List Ent} (hm : a.length ≤ maxLen) :
    P21 [stp k nd at' n s p kk (tRow a), stp k' nd' at'' n' s' p' kk' (tRow b)] G = some (oB G (sameS k nd at' n s p a k' nd' at'' n' s' p' b)) :=
  pureS_eq rfl (G0 := []) (f21_run (G := []) hm) rfl

theorem p22 {sz : Nat} {k nd at' n : Int} {s : ByteArray} {p : Int} {kk : LK} {a : List Bool} {k' nd' at'' n' : Int} {s' : ByteArray} {p' : Int} {kk' : LK} {b : List Bool} {G : List Ent} (hm : a.length ≤ maxLen) (hz : a ≠ [] → sz = 1) :
    P22 [stpz k nd at' n s p kk sz (tRow a), stp k' nd' at'' n' s' p' kk' (tRow b)] G = some (oB G (sameS k nd at' n s p a k' nd' at'' n' s' p' b)) :=
  pureS_eq rfl (G0 := []) (f22_run (G := []) hm hz) rfl

theorem p23 {k : LK} {l : List UInt8} {G : List Ent} (hl : l.length ≤ 140737488355328) :
    ∃ d, KeepD (getS l).1.keep d ∧ P23 [.dat (.list k 1 (bRow l))] G = some (o23 G ((getS l).1.kind, (getS l).1.node, (getS l).1.at', (getS l).1.n, (getS l).1.data, (getS l).1.stop, d, (getS l).2.1, (getS l).2.2)) := by
  obtain ⟨d, G', hd, h⟩ := R23_run (k := k) hl
  exact ⟨d, hd, pureS_eq rfl h rfl⟩

theorem sameS_self {k nd at' n : Int} {s : ByteArray} {p : Int} {a : List Bool} : sameS k nd at' n s p a k nd at' n s p a = true := by simp [sameS]

set_option maxHeartbeats 2000000 in
theorem f4_run {k nd at' n : Int} {s : ByteArray} {p : Int} {kk : LK} {a : List Bool} {k' nd' at'' n' : Int} {s' : ByteArray} {p' : Int} {kk' : LK} {b : List Bool} :
    ∃ G', (f4t k nd at' n s p kk (tRow a) k' nd' at'' n' s' p' kk' (tRow b)).run = some (.dat (.bool true), G') := by
  refine ⟨[], ?_⟩
  rw [← Tr.ev_run, f4t_eq]
  have e18 := fnS_eq (out := oT []) oT_inj p18
  by_cases c1 : a.length ≤ 300
  case neg => exact aT (by first | with_reducible rfl | with_reducible assumption | (simp only [Bool.and_eq_true, Bool.and_eq_false_iff, Bool.or_eq_true, Bool.true_and, Bool.and_true, decide_eq_true_eq, decide_eq_false_iff_not, Bool.not_eq_true', Bool.not_eq_false', beq_iff_eq, beq_eq_false_iff_ne, bne_iff_ne, bne_eq_false_iff_eq, ne_eq, fits_iff, whole_iff, List.length_append, List.length_map, List.length_cons, List.length_nil, List.length_take, List.length_drop, bRow_length, tRow_length, List.nil_append, Nat.zero_add, Nat.add_zero, Int.toNat_natCast, and_self, and_true, true_and, true_or, or_true, false_or, or_false, not_true_eq_false, not_false_eq_true] <;> omega)) (gStep e18 rfl)
  refine aF (by first | with_reducible rfl | with_reducible assumption | (simp only [Bool.and_eq_true, Bool.and_eq_false_iff, Bool.or_eq_true, Bool.true_and, Bool.and_true, decide_eq_true_eq, decide_eq_false_iff_not, Bool.not_eq_true', Bool.not_eq_false', beq_iff_eq, beq_eq_false_iff_ne, bne_iff_ne, bne_eq_false_iff_eq, ne_eq, fits_iff, whole_iff, List.length_append, List.length_map, List.length_cons, List.length_nil, List.length_take, List.length_drop, bRow_length, tRow_length, List.nil_append, Nat.zero_add, Nat.add_zero, Int.toNat_natCast, and_self, and_true, true_and, true_or, or_true, false_or, or_false, not_true_eq_false, not_false_eq_true] <;> omega)) ?_
  by_cases c2 : b.length ≤ 300
  case neg => exact aT (by first | with_reducible rfl | with_reducible assumption | (simp only [Bool.and_eq_true, Bool.and_eq_false_iff, Bool.or_eq_true, Bool.true_and, Bool.and_true, decide_eq_true_eq, decide_eq_false_iff_not, Bool.not_eq_true', Bool.not_eq_false', beq_iff_eq, beq_eq_false_iff_ne, bne_iff_ne, bne_eq_false_iff_eq, ne_eq, fits_iff, whole_iff, List.length_append, List.length_map, List.length_cons, List.length_nil, List.length_take, List.length_drop, bRow_length, tRow_length, List.nil_append, Nat.zero_add, Nat.add_zero, Int.toNat_natCast, and_self, and_true, true_and, true_or, or_true, false_or, or_false, not_true_eq_false, not_false_eq_true] <;> omega)) (gStep e18 rfl)
  refine aF (by first | with_reducible rfl | with_reducible assumption | (simp only [Bool.and_eq_true, Bool.and_eq_false_iff, Bool.or_eq_true, Bool.true_and, Bool.and_true, decide_eq_true_eq, decide_eq_false_iff_not, Bool.not_eq_true', Bool.not_eq_false', beq_iff_eq, beq_eq_false_iff_ne, bne_iff_ne, bne_eq_false_iff_eq, ne_eq, fits_iff, whole_iff, List.length_append, List.length_map, List.length_cons, List.length_nil, List.length_take, List.length_drop, bRow_length, tRow_length, List.nil_append, Nat.zero_add, Nat.add_zero, Int.toNat_natCast, and_self, and_true, true_and, true_or, or_true, false_or, or_false, not_true_eq_false, not_false_eq_true] <;> omega)) ?_
  by_cases c3 : s.size ≤ 200
  case neg => exact aT (by first | with_reducible rfl | with_reducible assumption | (simp only [Bool.and_eq_true, Bool.and_eq_false_iff, Bool.or_eq_true, Bool.true_and, Bool.and_true, decide_eq_true_eq, decide_eq_false_iff_not, Bool.not_eq_true', Bool.not_eq_false', beq_iff_eq, beq_eq_false_iff_ne, bne_iff_ne, bne_eq_false_iff_eq, ne_eq, fits_iff, whole_iff, List.length_append, List.length_map, List.length_cons, List.length_nil, List.length_take, List.length_drop, bRow_length, tRow_length, List.nil_append, Nat.zero_add, Nat.add_zero, Int.toNat_natCast, and_self, and_true, true_and, true_or, or_true, false_or, or_false, not_true_eq_false, not_false_eq_true] <;> omega)) (gStep e18 rfl)
  refine aF (by first | with_reducible rfl | with_reducible assumption | (simp only [Bool.and_eq_true, Bool.and_eq_false_iff, Bool.or_eq_true, Bool.true_and, Bool.and_true, decide_eq_true_eq, decide_eq_false_iff_not, Bool.not_eq_true', Bool.not_eq_false', beq_iff_eq, beq_eq_false_iff_ne, bne_iff_ne, bne_eq_false_iff_eq, ne_eq, fits_iff, whole_iff, List.length_append, List.length_map, List.length_cons, List.length_nil, List.length_take, List.length_drop, bRow_length, tRow_length, List.nil_append, Nat.zero_add, Nat.add_zero, Int.toNat_natCast, and_self, and_true, true_and, true_or, or_true, false_or, or_false, not_true_eq_false, not_false_eq_true] <;> omega)) ?_
  have hm : a.length ≤ maxLen := by unfold maxLen; omega
  have e21 := fnS_eq (out := oB []) oB_inj (p21 (k := k) (nd := nd) (at' := at') (n := n) (s := s) (p := p) (kk := kk) (k' := k') (nd' := nd') (at'' := at'') (n' := n') (s' := s') (p' := p') (kk' := kk') (b := b) (G := []) hm)
  have e22 := fnS_eq (out := oB []) oB_inj (p22 (sz := 1) (k := k) (nd := nd) (at' := at') (n := n) (s := s) (p := p) (kk := kk) (k' := k') (nd' := nd') (at'' := at'') (n' := n') (s' := s') (p' := p') (kk' := kk') (b := b) (G := []) hm (fun _ => rfl))
  have e19 := q19 (k := k) (nd := nd) (at' := at') (n := n) (s := s) (p := p) (kk := kk) (keep := a) (G := [])
  have e20 := q20 (k := k) (nd := nd) (at' := at') (n := n) (s := s) (p := p) (kk := kk) (keep := a) (G := [])
  by_cases ok : okS k nd at' n s p a
  · rw [decide_eq_true ok] at e19 e20
    have f19 : P19 [stp k nd at' n s p kk (tRow a)] [] = some (o19y [] (bRow (putB k nd at' n s p a))) := e19
    have f20 : P20 [stp k nd at' n s p kk (tRow a)] [] = some (o20y [] ⟨(putB k nd at' n s p a).toArray⟩) := e20
    have hlen := putB_len ok
    have hg := getS_putB ok
    generalize putB k nd at' n s p a = l at f19 f20 hlen hg
    refine aT (fnS_yes (o1 := o19y _) o19y_inj f19) (gStep (fnS_eq (out := o19y _) o19y_inj f19) (aT (fnS_yes (o1 := o20y _) o20y_inj f20) (gStep (fnS_eq (out := o20y _) o20y_inj f20) (gStep (rowBytes_bRow l) ?_))))
    refine aF (by simp) (gStep e21 (gStep e22 (aF (by simp) ?_)))
    obtain ⟨d, hd, h23⟩ := p23 (k := .any) (l := l) (G := []) (by omega)
    rw [hg] at hd h23
    refine gStep (fnS_eq (out := o23 _) o23_inj h23) ?_
    have ha : a.length ≤ maxLen := hm
    have key : ∀ (q : LK) (sz : Nat), (a ≠ [] → sz = 1) → fnS (oB []) (P22 [stpz k nd at' n s p q sz (tRow a), stp k nd at' n s p kk (tRow a)] []) = some true := by
      intro q sz hz
      have := p22 (sz := sz) (k := k) (nd := nd) (at' := at') (n := n) (s := s) (p := p) (kk := q) (a := a) (k' := k) (nd' := nd) (at'' := at') (n' := n) (s' := s) (p' := p) (kk' := kk) (b := a) (G := []) hm hz
      rw [sameS_self] at this
      exact fnS_eq oB_inj this
    rcases hd with ⟨rfl, he⟩ | ⟨rfl, he⟩
    · have he : a = [] := he
      subst he
      refine gStep (key .nil 0 (fun h => absurd rfl h)) (aT rfl (aT ?_ (aT rfl (gStep e18 rfl))))
      simp
    · refine gStep (key .any 1 (fun _ => rfl)) (aT rfl (aT ?_ (aT rfl (gStep e18 rfl))))
      simp
  · rw [decide_eq_false ok] at e19 e20
    have f19 : P19 [stp k nd at' n s p kk (tRow a)] [] = some (o19n [] ()) := e19
    have f20 : P20 [stp k nd at' n s p kk (tRow a)] [] = some (o20n [] ()) := e20
    refine aF (fnS_no f19 (fun x h => by simp [o19y, o19n] at h)) (gStep (fnS_eq (out := o19n _) o19n_inj f19) (aF (fnS_no f20 (fun x h => by simp [o20y, o20n] at h)) (gStep (fnS_eq (out := o20n _) o20n_inj f20) ?_)))
    exact gStep e21 (gStep e22 (aF (by simp) (gStep e18 rfl)))

end Go.Eng
end

/- Bytes as steps: the document's reader and Get, as trees. -/
section
namespace Go.Eng
open Go

def HSg (f : Nat) : Nat → List Nat := match f with
  | 26 => hOfS [(15, [2, 5, 6, 8, 9]), (1000015, [2, 3, 4, 5, 6]), (3000000, [17])]
  | 28 => hOfS [(3, [0, 4, 5]), (1000003, [2, 3, 4])]
  | 29 => hOfS [(4, [0, 1, 5]), (1000004, [4])]
  | 30 => hOfS [(5, [4, 12, 13, 14]), (1000005, [2, 3, 4])]
  | 31 => hOfS [(5, [0, 4, 5]), (1000005, [2, 3, 4])]
  | f => HSa f

/-- the document's reader -/
def rd0 (k : LK) (xs : Row) (at' e : Int) : Ent := .obj [.dat (.list k 1 xs), .dat (.int .i64 at'), .dat (.int .i64 e)]
noncomputable def m50 (k : LK) (xs : Row) (at' e w : Int) : Tr (AV × List Ent) := tX 50 [.ptr (.glob 0) 0, .dat (.int .i64 w)] [rd0 k xs at' e]
noncomputable def m51 (k : LK) (xs : Row) (at' e : Int) : Tr (AV × List Ent) := tX 51 [.ptr (.glob 0) 0, .dat (.int .i64 64)] [rd0 k xs at' e]
noncomputable def R50 (a : List AV) (G : List Ent) : Option (AV × List Ent) := (tX 50 a G).run
noncomputable def R51 (a : List AV) (G : List Ent) : Option (AV × List Ent) := (tX 51 a G).run
def out50 (k : LK) (xs : Row) (p : Int × Int × Int) : AV × List Ent := (.dat (.int .u64 p.1), [rd0 k xs p.2.1 p.2.2])
def out51y (k : LK) (xs : Row) (p : LK × Row × Int × Int) : AV × List Ent := (.dat (.list p.1 1 p.2.1), [rd0 k xs p.2.2.1 p.2.2.2])
def out51n (k : LK) (xs : Row) (p : Int × Int) : AV × List Ent := (.dat (.list .nil 0 []), [rd0 k xs p.1 p.2])
def argG (G : List Ent) : LK × Row := match G with
  | .obj (.dat (.list k _ xs) :: _) :: _ => (k, xs)
  | _ => (.nil, [])
noncomputable def tG : TOrc := tCons 50 (fun a G => tspec (out50 (argG G).1 (argG G).2) (R50 a G)) (tCons 51 (fun a G => tspec2 (out51y (argG G).1 (argG G).2) (out51n (argG G).1 (argG G).2) (R51 a G)) tNone)
noncomputable def lp26 : Code := lpOf (codeOf Go.Proofs.Try.f26) 0
noncomputable def h26 (op : St → Option (Ex × St)) (k : LK) (xs : Row) : Tr (AV × List Ent) :=
  tfn TT tG (fun _ st => .get (op (tidy (HSg 26 15) st)) fun x => .ret x) Go.Proofs.Try.f26 [.dat (.list k 1 xs)] []

def inv26a (k : LK) (xs : Row) (kd nd at' nn : Int) (s : ByteArray) (p : Int) (n i : Int) (at0 e : Int) : St :=
  ⟨mkT 0 91 [(2, .ptr (.loc 0) 0), (5, .ptr (.glob 0) 0), (6, .ptr (.loc 1) 0), (8, .dat (.int .i64 n)), (9, .dat (.int .i64 i))], ⟨[zero23, some (.obj [.dat (.int .i64 kd), .dat (.int .i64 nd), .dat (.int .i64 at'), .dat (.int .i64 nn), .dat (.str s), .dat (.int .i64 p), .dat (.list .nil 0 [])])], [rd0 k xs at0 e], 0⟩⟩
def inv26b (k : LK) (xs : Row) (kd nd at' nn : Int) (s : ByteArray) (p : Int) (keep : Row) (n i : Int) (at0 e : Int) : St :=
  ⟨mkT 0 91 [(2, .ptr (.loc 0) 0), (5, .ptr (.glob 0) 0), (6, .ptr (.loc 1) 0), (8, .dat (.int .i64 n)), (9, .dat (.int .i64 i))], ⟨[zero23, some (.obj [.dat (.int .i64 kd), .dat (.int .i64 nd), .dat (.int .i64 at'), .dat (.int .i64 nn), .dat (.str s), .dat (.int .i64 p), .sh false 2 1 0 keep.length]), some (.row .excl 1 keep)], [rd0 k xs at0 e], 0⟩⟩
noncomputable def rk26a (k : LK) (xs : Row) (kd nd at' nn : Int) (s : ByteArray) (p : Int) (n i : Int) (at0 e : Int) : Tr (Ex × St) := tround TT tG noLo (HSg 26) lp26 (inv26a k xs kd nd at' nn s p n i at0 e)
noncomputable def rk26b (k : LK) (xs : Row) (kd nd at' nn : Int) (s : ByteArray) (p : Int) (keep : Row) (n i : Int) (at0 e : Int) : Tr (Ex × St) := tround TT tG noLo (HSg 26) lp26 (inv26b k xs kd nd at' nn s p keep n i at0 e)
end Go.Eng
end

/- The document's reader. -/
section
namespace Go.Eng
open Go
set_option maxRecDepth 100000
set_option linter.unusedSimpArgs false

theorem m50_eq (k : LK) (xs : Row) (at' e w : Int) : (m50 k xs at' e w).ev =
  (rAsk (e != (0 : Int))
   (some ((AV.dat (D.int IntKind.u64 (0 : Int))), [(Ent.obj [(AV.dat (D.list k 1 xs)), (AV.dat (D.int IntKind.i64 at')), (AV.dat (D.int IntKind.i64 e))])]))
   (rGet (fnS (fun (p : Int × Int) => ((AV.tup [(AV.dat (D.int IntKind.u64 p.1)), (AV.dat (D.int IntKind.i64 p.2))]), [(Ent.obj [(AV.dat (D.list k 1 xs)), (AV.dat (D.int IntKind.i64 at')), (AV.dat (D.int IntKind.i64 e))])])) (R57 [(AV.dat (D.list k 1 xs)), (AV.dat (D.int IntKind.i64 at')), (AV.dat (D.int IntKind.i64 w))] [(Ent.obj [(AV.dat (D.list k 1 xs)), (AV.dat (D.int IntKind.i64 at')), (AV.dat (D.int IntKind.i64 e))])])) fun x1 =>
    (rAsk (x1.2 == (0 : Int))
     (some ((AV.dat (D.int IntKind.u64 x1.1)), [(Ent.obj [(AV.dat (D.list k 1 xs)), (AV.dat (D.int IntKind.i64 (IntKind.wrap IntKind.i64 (at' + w)))), (AV.dat (D.int IntKind.i64 x1.2))])]))
     (some ((AV.dat (D.int IntKind.u64 x1.1)), [(Ent.obj [(AV.dat (D.list k 1 xs)), (AV.dat (D.int IntKind.i64 at')), (AV.dat (D.int IntKind.i64 x1.2))])]))
    )
   )
  )
  := by kernel_rfl
theorem m51_eq (k : LK) (xs : Row) (at' e : Int) : (m51 k xs at' e).ev =
  (rAsk (e == (0 : Int))
   (rAsk (e == (0 : Int))
    (rAsk (decide ((IntKind.wrap IntKind.i64 ((((List.length xs) : Nat) : Int) - at')) < (64 : Int)))
     (some ((AV.dat (D.list LK.nil 0 ([] : Row))), [(Ent.obj [(AV.dat (D.list k 1 xs)), (AV.dat (D.int IntKind.i64 at')), (AV.dat (D.int IntKind.i64 (7 : Int)))])]))
     (rAsk (e != (0 : Int))
      (some ((AV.dat (D.list LK.nil 0 ([] : Row))), [(Ent.obj [(AV.dat (D.list k 1 xs)), (AV.dat (D.int IntKind.i64 at')), (AV.dat (D.int IntKind.i64 e))])]))
      (rAsk ((decide ((0 : Int) ≤ (IntKind.wrap IntKind.i64 ((IntKind.wrap IntKind.i64 (at' + (64 : Int))) - (64 : Int))))) && ((decide ((IntKind.wrap IntKind.i64 ((IntKind.wrap IntKind.i64 (at' + (64 : Int))) - (64 : Int))) ≤ (IntKind.wrap IntKind.i64 (at' + (64 : Int))))) && (decide ((IntKind.wrap IntKind.i64 (at' + (64 : Int))) ≤ (((List.length xs) : Nat) : Int)))))
       (rAsk ((decide (k = LK.nil)) || true)
        (some ((AV.dat (D.list (if ((k = LK.full) ∧ ((IntKind.wrap IntKind.i64 (at' + (64 : Int))) < (((List.length xs) : Nat) : Int))) then LK.any else k) 1 (List.take ((Int.toNat (IntKind.wrap IntKind.i64 (at' + (64 : Int)))) - (Int.toNat (IntKind.wrap IntKind.i64 ((IntKind.wrap IntKind.i64 (at' + (64 : Int))) - (64 : Int))))) (List.drop (Int.toNat (IntKind.wrap IntKind.i64 ((IntKind.wrap IntKind.i64 (at' + (64 : Int))) - (64 : Int)))) xs)))), [(Ent.obj [(AV.dat (D.list k 1 xs)), (AV.dat (D.int IntKind.i64 (IntKind.wrap IntKind.i64 (at' + (64 : Int))))), (AV.dat (D.int IntKind.i64 e))])]))
        none
       )
       none
      )
     )
    )
    (rAsk (e != (0 : Int))
     (some ((AV.dat (D.list LK.nil 0 ([] : Row))), [(Ent.obj [(AV.dat (D.list k 1 xs)), (AV.dat (D.int IntKind.i64 at')), (AV.dat (D.int IntKind.i64 e))])]))
     (rAsk ((decide ((0 : Int) ≤ (IntKind.wrap IntKind.i64 ((IntKind.wrap IntKind.i64 (at' + (64 : Int))) - (64 : Int))))) && ((decide ((IntKind.wrap IntKind.i64 ((IntKind.wrap IntKind.i64 (at' + (64 : Int))) - (64 : Int))) ≤ (IntKind.wrap IntKind.i64 (at' + (64 : Int))))) && (decide ((IntKind.wrap IntKind.i64 (at' + (64 : Int))) ≤ (((List.length xs) : Nat) : Int)))))
      (rAsk ((decide (k = LK.nil)) || true)
       (some ((AV.dat (D.list (if ((k = LK.full) ∧ ((IntKind.wrap IntKind.i64 (at' + (64 : Int))) < (((List.length xs) : Nat) : Int))) then LK.any else k) 1 (List.take ((Int.toNat (IntKind.wrap IntKind.i64 (at' + (64 : Int)))) - (Int.toNat (IntKind.wrap IntKind.i64 ((IntKind.wrap IntKind.i64 (at' + (64 : Int))) - (64 : Int))))) (List.drop (Int.toNat (IntKind.wrap IntKind.i64 ((IntKind.wrap IntKind.i64 (at' + (64 : Int))) - (64 : Int)))) xs)))), [(Ent.obj [(AV.dat (D.list k 1 xs)), (AV.dat (D.int IntKind.i64 (IntKind.wrap IntKind.i64 (at' + (64 : Int))))), (AV.dat (D.int IntKind.i64 e))])]))
       none
      )
      none
     )
    )
   )
   (rAsk (e == (0 : Int))
    (rAsk (decide ((IntKind.wrap IntKind.i64 ((((List.length xs) : Nat) : Int) - at')) < (64 : Int)))
     (some ((AV.dat (D.list LK.nil 0 ([] : Row))), [(Ent.obj [(AV.dat (D.list k 1 xs)), (AV.dat (D.int IntKind.i64 at')), (AV.dat (D.int IntKind.i64 (7 : Int)))])]))
     (rAsk (e != (0 : Int))
      (some ((AV.dat (D.list LK.nil 0 ([] : Row))), [(Ent.obj [(AV.dat (D.list k 1 xs)), (AV.dat (D.int IntKind.i64 at')), (AV.dat (D.int IntKind.i64 e))])]))
      (rAsk ((decide ((0 : Int) ≤ (IntKind.wrap IntKind.i64 ((IntKind.wrap IntKind.i64 (at' + (64 : Int))) - (64 : Int))))) && ((decide ((IntKind.wrap IntKind.i64 ((IntKind.wrap IntKind.i64 (at' + (64 : Int))) - (64 : Int))) ≤ (IntKind.wrap IntKind.i64 (at' + (64 : Int))))) && (decide ((IntKind.wrap IntKind.i64 (at' + (64 : Int))) ≤ (((List.length xs) : Nat) : Int)))))
       (rAsk ((decide (k = LK.nil)) || true)
        (some ((AV.dat (D.list (if ((k = LK.full) ∧ ((IntKind.wrap IntKind.i64 (at' + (64 : Int))) < (((List.length xs) : Nat) : Int))) then LK.any else k) 1 (List.take ((Int.toNat (IntKind.wrap IntKind.i64 (at' + (64 : Int)))) - (Int.toNat (IntKind.wrap IntKind.i64 ((IntKind.wrap IntKind.i64 (at' + (64 : Int))) - (64 : Int))))) (List.drop (Int.toNat (IntKind.wrap IntKind.i64 ((IntKind.wrap IntKind.i64 (at' + (64 : Int))) - (64 : Int)))) xs)))), [(Ent.obj [(AV.dat (D.list k 1 xs)), (AV.dat (D.int IntKind.i64 (IntKind.wrap IntKind.i64 (at' + (64 : Int))))), (AV.dat (D.int IntKind.i64 e))])]))
        none
       )
       none
      )
     )
    )
    (rAsk (e != (0 : Int))
     (some ((AV.dat (D.list LK.nil 0 ([] : Row))), [(Ent.obj [(AV.dat (D.list k 1 xs)), (AV.dat (D.int IntKind.i64 at')), (AV.dat (D.int IntKind.i64 e))])]))
     (rAsk ((decide ((0 : Int) ≤ (IntKind.wrap IntKind.i64 ((IntKind.wrap IntKind.i64 (at' + (64 : Int))) - (64 : Int))))) && ((decide ((IntKind.wrap IntKind.i64 ((IntKind.wrap IntKind.i64 (at' + (64 : Int))) - (64 : Int))) ≤ (IntKind.wrap IntKind.i64 (at' + (64 : Int))))) && (decide ((IntKind.wrap IntKind.i64 (at' + (64 : Int))) ≤ (((List.length xs) : Nat) : Int)))))
      (rAsk ((decide (k = LK.nil)) || true)
       (some ((AV.dat (D.list (if ((k = LK.full) ∧ ((IntKind.wrap IntKind.i64 (at' + (64 : Int))) < (((List.length xs) : Nat) : Int))) then LK.any else k) 1 (List.take ((Int.toNat (IntKind.wrap IntKind.i64 (at' + (64 : Int)))) - (Int.toNat (IntKind.wrap IntKind.i64 ((IntKind.wrap IntKind.i64 (at' + (64 : Int))) - (64 : Int))))) (List.drop (Int.toNat (IntKind.wrap IntKind.i64 ((IntKind.wrap IntKind.i64 (at' + (64 : Int))) - (64 : Int)))) xs)))), [(Ent.obj [(AV.dat (D.list k 1 xs)), (AV.dat (D.int IntKind.i64 (IntKind.wrap IntKind.i64 (at' + (64 : Int))))), (AV.dat (D.int IntKind.i64 e))])]))
       none
      )
      none
     )
    )
   )
  )
  := by kernel_rfl

/-- the place -/
def posI (L : List UInt8) (s : RS) : Int := (L.length : Int) - (s.1.length : Int)
def rdE (k : LK) (L : List UInt8) (s : RS) : Ent := rd0 k (bRow L) (posI L s) s.2

theorem out50_inj {k : LK} {xs : Row} : ∀ x y, out50 k xs x = out50 k xs y → x = y := by
  rintro ⟨x1, x2, x3⟩ ⟨y1, y2, y3⟩ h
  simp [out50, rd0] at h
  obtain ⟨rfl, rfl, rfl⟩ := h
  rfl
theorem out51y_inj {k : LK} {xs : Row} : ∀ x y, out51y k xs x = out51y k xs y → x = y := by
  rintro ⟨x1, x2, x3, x4⟩ ⟨y1, y2, y3, y4⟩ h
  simp [out51y, rd0] at h
  obtain ⟨⟨rfl, rfl⟩, rfl, rfl⟩ := h
  rfl
theorem out51n_inj {k : LK} {xs : Row} : ∀ x y, out51n k xs x = out51n k xs y → x = y := by
  rintro ⟨x1, x2⟩ ⟨y1, y2⟩ h
  simp [out51n, rd0] at h
  obtain ⟨rfl, rfl⟩ := h
  rfl

theorem suf_num {L : List UInt8} {s : RS} {w : Nat} (h : s.1 <:+ L) : (numS w s).2.1 <:+ L := by
  unfold numS
  split
  · exact h
  · split
    · exact h
    · exact (List.drop_suffix w s.1).trans h
theorem suf_bytes {L : List UInt8} {s : RS} (h : s.1 <:+ L) : (bytesS s).2.1 <:+ L := by
  unfold bytesS
  split
  · exact h
  · split
    · exact h
    · exact (List.drop_suffix 64 s.1).trans h

attribute [local irreducible] fnS loS R57

theorem c50 {k : LK} {L : List UInt8} {s : RS} {w : Nat} (hs : s.1 <:+ L) (hl : L.length ≤ 140737488355328) (hw : w = 1 ∨ w = 2) :
    R50 [.ptr (.glob 0) 0, .dat (.int .i64 (w : Int))] [rdE k L s] = some (out50 k (bRow L) ((numS w s).1, posI L (numS w s).2, (numS w s).2.2)) := by
  have hm : L.length ≤ maxLen := by unfold maxLen; omega
  obtain ⟨l, e⟩ := s
  obtain ⟨pre, rfl⟩ := hs
  have hp : posI (pre ++ l) (l, e) = (pre.length : Int) := by simp only [posI, List.length_append]; omega
  show (m50 k (bRow (pre ++ l)) (posI (pre ++ l) (l, e)) e w).run = _
  rw [hp, ← Tr.ev_run, m50_eq]
  by_cases he : e = 0
  · subst he
    by_cases hh : l.length < w
    · rw [numS_short hh]
      have hg : getN (pre ++ l) (pre.length : Int) w = (0, 7) := (if_pos (by omega)).trans (if_neg (by simp only [List.length_append]; omega))
      have h57 : ∀ G, fnS (outN G) (R57 [.dat (.list k 1 (bRow (pre ++ l))), .dat (.int .i64 (pre.length : Int)), .dat (.int .i64 (w : Int))] G) = some (0, 7) := fun G => by rw [R57_run hm (by simp only [List.length_append] at hl; omega), hg]; exact fnS_eq outN_inj rfl
      refine aF rfl (gStep (h57 _) (aF rfl ?_))
      rw [show posI (pre ++ l) (l, 7) = (pre.length : Int) from hp]
      rfl
    · rw [numS_ok (by omega)]
      have hg : getN (pre ++ l) (pre.length : Int) w = (((val (l.take w) : Nat) : Int), 0) := by
        refine ((if_pos (by omega)).trans (if_pos (by simp only [List.length_append]; omega))).trans ?_
        simp
      have h57 : ∀ G, fnS (outN G) (R57 [.dat (.list k 1 (bRow (pre ++ l))), .dat (.int .i64 (pre.length : Int)), .dat (.int .i64 (w : Int))] G) = some (((val (l.take w) : Nat) : Int), 0) := fun G => by rw [R57_run hm (by simp only [List.length_append] at hl; omega), hg]; exact fnS_eq outN_inj rfl
      refine aF rfl (gStep (h57 _) (aT rfl ?_))
      have hw2 : IntKind.wrap .i64 ((pre.length : Int) + (w : Int)) = (pre.length : Int) + (w : Int) := IntWalk.i64_in _ (by simp only [List.length_append] at hl; omega)
      have hq : posI (pre ++ l) (l.drop w, 0) = (pre.length : Int) + (w : Int) := by simp only [posI, List.length_append, List.length_drop]; omega
      simp only [hw2]
      rw [hq]
      rfl
  · rw [numS_err he, hp]
    refine aT (by simpa using he) rfl

theorem c51 {k : LK} {L : List UInt8} {s : RS} (hs : s.1 <:+ L) (hl : L.length ≤ 140737488355328) :
    ∃ k', R51 [.ptr (.glob 0) 0, .dat (.int .i64 64)] [rdE k L s] = some (match (bytesS s).1 with
      | some b => out51y k (bRow L) (k', bRow b, posI L (bytesS s).2, (bytesS s).2.2)
      | none => out51n k (bRow L) (posI L (bytesS s).2, (bytesS s).2.2)) := by
  obtain ⟨l, e⟩ := s
  obtain ⟨pre, rfl⟩ := hs
  have hp : posI (pre ++ l) (l, e) = (pre.length : Int) := by simp only [posI, List.length_append]; omega
  have hL : pre.length + l.length ≤ 140737488355328 := by simpa using hl
  by_cases he : e = 0
  · subst he
    have hw1 : IntKind.wrap .i64 (((pre.length + l.length : Nat) : Int) - (pre.length : Int)) = (l.length : Int) := by rw [IntWalk.i64_in _ (by omega)]; omega
    by_cases hh : l.length < 64
    · have hb : bytesS (l, 0) = (none, (l, 7)) := by simp [bytesS, hh]
      refine ⟨.any, ?_⟩
      rw [hb]
      show (m51 k (bRow (pre ++ l)) (posI (pre ++ l) (l, 0)) 0).run = _
      rw [hp, ← Tr.ev_run, m51_eq]
      simp only [bRow_length, List.length_append, hw1]
      refine aT rfl (aT rfl (aT (by first | with_reducible rfl | with_reducible assumption | (simp only [Bool.and_eq_true, Bool.and_eq_false_iff, Bool.or_eq_true, Bool.true_and, Bool.and_true, decide_eq_true_eq, decide_eq_false_iff_not, Bool.not_eq_true', Bool.not_eq_false', beq_iff_eq, beq_eq_false_iff_ne, bne_iff_ne, bne_eq_false_iff_eq, ne_eq, fits_iff, whole_iff, List.length_append, List.length_map, List.length_cons, List.length_nil, List.length_take, List.length_drop, bRow_length, tRow_length, List.nil_append, Nat.zero_add, Nat.add_zero, Int.toNat_natCast, and_self, and_true, true_and, true_or, or_true, false_or, or_false, not_true_eq_false, not_false_eq_true] <;> omega)) ?_))
      rw [show posI (pre ++ l) (l, 7) = (pre.length : Int) from hp]
      rfl
    · have hb : bytesS (l, 0) = (some (l.take 64), (l.drop 64, 0)) := by simp [bytesS, hh]
      have hw2 : IntKind.wrap .i64 ((pre.length : Int) + 64) = (pre.length : Int) + 64 := IntWalk.i64_in _ (by omega)
      have hw3 : IntKind.wrap .i64 ((pre.length : Int) + 64 - 64) = (pre.length : Int) := by rw [IntWalk.i64_in _ (by omega)]; omega
      have hq : posI (pre ++ l) (l.drop 64, 0) = (pre.length : Int) + 64 := by simp only [posI, List.length_append, List.length_drop]; omega
      refine ⟨if (k = LK.full) ∧ ((pre.length : Int) + 64 < ((pre.length + l.length : Nat) : Int)) then .any else k, ?_⟩
      rw [hb]
      show (m51 k (bRow (pre ++ l)) (posI (pre ++ l) (l, 0)) 0).run = _
      rw [hp, ← Tr.ev_run, m51_eq]
      have t1 : ((pre.length : Int) + 64).toNat = pre.length + 64 := by omega
      have t2 : pre.length + 64 - pre.length = 64 := by omega
      have t3 : List.drop pre.length (bRow (pre ++ l)) = bRow l := by rw [bRow_drop]; simp
      simp only [bRow_length, List.length_append, hw1, hw2, hw3, t1, Int.toNat_natCast, t2, t3, bRow_take]
      refine aT rfl (aT rfl (aF (by first | with_reducible rfl | with_reducible assumption | (simp only [Bool.and_eq_true, Bool.and_eq_false_iff, Bool.or_eq_true, Bool.true_and, Bool.and_true, decide_eq_true_eq, decide_eq_false_iff_not, Bool.not_eq_true', Bool.not_eq_false', beq_iff_eq, beq_eq_false_iff_ne, bne_iff_ne, bne_eq_false_iff_eq, ne_eq, fits_iff, whole_iff, List.length_append, List.length_map, List.length_cons, List.length_nil, List.length_take, List.length_drop, bRow_length, tRow_length, List.nil_append, Nat.zero_add, Nat.add_zero, Int.toNat_natCast, and_self, and_true, true_and, true_or, or_true, false_or, or_false, not_true_eq_false, not_false_eq_true] <;> omega)) (aF rfl (aT (by first | with_reducible rfl | with_reducible assumption | (simp only [Bool.and_eq_true, Bool.and_eq_false_iff, Bool.or_eq_true, Bool.true_and, Bool.and_true, decide_eq_true_eq, decide_eq_false_iff_not, Bool.not_eq_true', Bool.not_eq_false', beq_iff_eq, beq_eq_false_iff_ne, bne_iff_ne, bne_eq_false_iff_eq, ne_eq, fits_iff, whole_iff, List.length_append, List.length_map, List.length_cons, List.length_nil, List.length_take, List.length_drop, bRow_length, tRow_length, List.nil_append, Nat.zero_add, Nat.add_zero, Int.toNat_natCast, and_self, and_true, true_and, true_or, or_true, false_or, or_false, not_true_eq_false, not_false_eq_true] <;> omega)) (aT (by simp) ?_)))))
      rw [hq]
      rfl
  · have hb : bytesS (l, e) = (none, (l, e)) := by simp [bytesS, he]
    refine ⟨.any, ?_⟩
    rw [hb]
    show (m51 k (bRow (pre ++ l)) (posI (pre ++ l) (l, e)) e).run = _
    rw [hp, ← Tr.ev_run, m51_eq]
    refine aF (by simpa using he) (aF (by simpa using he) (aT (by simpa using he) rfl))
end Go.Eng
end

/- The document's Get as a tree. -/
section
namespace Go.Eng
open Go

/-- loops of three ends -/
noncomputable def tlo3 {A B C : Type} (T : Tab) (oo : Orc) (H : Nat → List Nat) (b : Code) (o1 : A → Ex × St) (o2 : B → Ex × St) (o3 : C → Ex × St) (st : St) : Tr (Ex × St) :=
  .ask (loS T oo H b o1 (tidy (H (firstRegion b)) st)).isSome (tlo T oo H b o1 st) (tlo2 T oo H b o2 o3 st)
theorem tlo3_ok {A B C : Type} {T : Tab} {oo : Orc} {H : Nat → List Nat} {b : Code} {o1 : A → Ex × St} {o2 : B → Ex × St} {o3 : C → Ex × St} {st : St} {r : Ex × St} (h : (tlo3 T oo H b o1 o2 o3 st).run = some r) : ∃ K, exec T oo K H (.loop b) st = some r := by
  unfold tlo3 at h
  rcases run_ask h with ⟨_, h⟩ | ⟨_, h⟩
  · exact tlo_ok h
  · exact tlo2_ok h

def stp26 (kd nd at' nn : Int) (s : ByteArray) (p : Int) (d : AV) : Option Ent := some (.obj [.dat (.int .i64 kd), .dat (.int .i64 nd), .dat (.int .i64 at'), .dat (.int .i64 nn), .dat (.str s), .dat (.int .i64 p), d])
def out26a (k : LK) (xs : Row) (p : Int × Int × Int × Int × ByteArray × Int × Int × Int) : Ex × St :=
  (.exit 0, ⟨mkT 0 91 [(2, .ptr (.loc 0) 0), (5, .ptr (.glob 0) 0), (6, .ptr (.loc 1) 0)], ⟨[zero23, stp26 p.1 p.2.1 p.2.2.1 p.2.2.2.1 p.2.2.2.2.1 p.2.2.2.2.2.1 (.dat (.list .nil 0 []))], [rd0 k xs p.2.2.2.2.2.2.1 p.2.2.2.2.2.2.2], 0⟩⟩)
def out26b (k : LK) (xs : Row) (p : Int × Int × Int × Int × ByteArray × Int × Row × Int × Int) : Ex × St :=
  (.exit 0, ⟨mkT 0 91 [(2, .ptr (.loc 0) 0), (5, .ptr (.glob 0) 0), (6, .ptr (.loc 1) 0)], ⟨[zero23, stp26 p.1 p.2.1 p.2.2.1 p.2.2.2.1 p.2.2.2.2.1 p.2.2.2.2.2.1 (.sh false 2 1 0 p.2.2.2.2.2.2.1.length), some (.row .excl 1 p.2.2.2.2.2.2.1)], [rd0 k xs p.2.2.2.2.2.2.2.1 p.2.2.2.2.2.2.2.2], 0⟩⟩)
def out26c (k : LK) (xs : Row) (p : List (Option Ent) × Int × Int) : Ex × St :=
  (.ret, ⟨mkT 0 91 [(2, .ptr (.loc 0) 0), (3, .dat (.int .i64 0)), (4, .dat (.int .i64 6)), (5, .ptr (.glob 0) 0), (6, .ptr (.loc 1) 0)], ⟨zero23 :: p.1, [rd0 k xs p.2.1 p.2.2], 0⟩⟩)
noncomputable def lo26 (n : Nat) (st : St) : Tr (Ex × St) := match n with
  | 15 => tlo3 TT tG.runs (HSg 26) lp26 (out26a (argG st.mem.G).1 (argG st.mem.G).2) (out26b (argG st.mem.G).1 (argG st.mem.G).2) (out26c (argG st.mem.G).1 (argG st.mem.G).2) st
  | _ => .fail
noncomputable def f26t (k : LK) (xs : Row) : Tr (AV × List Ent) := tfnR TT tG lo26 (HSg 26 3000000) Go.Proofs.Try.f26 [.dat (.list k 1 xs)] []
end Go.Eng
end
