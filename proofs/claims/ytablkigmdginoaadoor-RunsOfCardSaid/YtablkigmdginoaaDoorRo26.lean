/- Runs of sets, their texts, and back: in plain terms. -/
import Derived.Test.YtablkigmdginoaaDoorRo22
import Derived.Test.YtablkigmdginoaaDoorRo25
import Derived.KernelRfl
section
namespace Go.Eng
open Go
set_option linter.unusedSectionVars false

/-- the runs of numbers that rise; r: the one under way -/
def runsN : List Nat → Nat × Nat → List (Nat × Nat)
  | [], r => if r.2 > 0 then [r] else []
  | i :: l, r => if r.2 > 0 ∧ i = r.1 + r.2 then runsN l (r.1, r.2 + 1) else if r.2 > 0 then r :: runsN l (i, 1) else runsN l (i, 1)
def runsB (s : Nat × Nat) : List (Nat × Nat) := runsN (numsB s) (0, 0)
/-- the numbers of a run -/
def numsR (r : Nat × Nat) : List Nat := (List.range r.2).map (r.1 + ·)
theorem numsR_succ (a n : Nat) : numsR (a, n + 1) = numsR (a, n) ++ [a + n] := by simp [numsR, List.range_succ]
theorem runs_nums : ∀ (l : List Nat) (r : Nat × Nat), ((runsN l r).map numsR).flatten = numsR r ++ l
  | [], r => by
    unfold runsN
    split
    · simp
    · rename_i h
      have : r.2 = 0 := by omega
      simp [numsR, this]
  | i :: l, r => by
    unfold runsN
    split
    · rename_i h
      rw [runs_nums l, numsR_succ, List.append_assoc, ← h.2]
      rfl
    · split
      · rw [List.map_cons, List.flatten_cons, runs_nums l]
        rfl
      · rename_i h
        have : r.2 = 0 := by omega
        rw [runs_nums l]
        simp [numsR, this]
theorem runs_pos : ∀ (l : List Nat) (r : Nat × Nat), ∀ p ∈ runsN l r, 1 ≤ p.2
  | [], r, p, h => by
    unfold runsN at h
    split at h
    · simp only [List.mem_singleton] at h
      subst h
      assumption
    · cases h
  | i :: l, r, p, h => by
    unfold runsN at h
    split at h
    · exact runs_pos l _ p h
    · split at h
      · rcases List.mem_cons.1 h with rfl | h
        · assumption
        · exact runs_pos l _ p h
      · exact runs_pos l _ p h
theorem mem_numsR {r : Nat × Nat} {x : Nat} : x ∈ numsR r ↔ r.1 ≤ x ∧ x < r.1 + r.2 := by
  simp only [numsR, List.mem_map, List.mem_range]
  constructor
  · rintro ⟨i, hi, rfl⟩
    omega
  · rintro ⟨h1, h2⟩
    exact ⟨x - r.1, by omega, by omega⟩
theorem mem_nums {s : Nat × Nat} {x : Nat} : x ∈ numsB s ↔ x < 128 ∧ hasB s x = true := by
  rw [nums_eq, List.mem_filter, List.mem_range]
theorem mem_runs {s : Nat × Nat} {x : Nat} : (∃ r ∈ runsB s, r.1 ≤ x ∧ x < r.1 + r.2) ↔ x < 128 ∧ hasB s x = true := by
  rw [← mem_nums]
  have h := runs_nums (numsB s) (0, 0)
  rw [show numsR (0, 0) = [] from rfl, List.nil_append] at h
  constructor
  · rintro ⟨r, hr, hx⟩
    rw [← h]
    exact List.mem_flatten.2 ⟨numsR r, List.mem_map.2 ⟨r, hr, rfl⟩, mem_numsR.2 hx⟩
  · intro hx
    rw [← h] at hx
    obtain ⟨l, hl, hx⟩ := List.mem_flatten.1 hx
    obtain ⟨r, hr, rfl⟩ := List.mem_map.1 hl
    exact ⟨r, hr, mem_numsR.1 hx⟩
theorem runs_le {s : Nat × Nat} {r : Nat × Nat} (h : r ∈ runsB s) : 1 ≤ r.2 ∧ r.1 + r.2 ≤ 128 := by
  have h1 := runs_pos _ _ r h
  have h2 := (mem_runs (s := s) (x := r.1 + r.2 - 1)).1 ⟨r, h, by omega, by omega⟩
  exact ⟨h1, by omega⟩

/-! ### filling -/
def fillR (m : Nat) : Nat → Nat → Nat × Nat → Nat × Nat
  | _, 0, s => s
  | j, d + 1, s => fillR m (j + 1) d (setB s (m + j))
theorem fillR_fit {m : Nat} : ∀ (d j : Nat) (s : Nat × Nat), m + j + d ≤ 128 → fitB s → fitB (fillR m j d s)
  | 0, _, _, _, h => h
  | d + 1, j, s, hl, h => fillR_fit d (j + 1) _ (by omega) (setB_fit h (by omega))
theorem fillR_has {m : Nat} {x : Nat} (hx : x < 128) : ∀ (d j : Nat) (s : Nat × Nat), m + j + d ≤ 128 → hasB (fillR m j d s) x = (hasB s x || decide (m + j ≤ x ∧ x < m + j + d))
  | 0, j, s, _ => by
    rw [fillR, decide_eq_false (by omega), Bool.or_false]
  | d + 1, j, s, hl => by
    rw [fillR, fillR_has hx d (j + 1) _ (by omega), setB_has (by omega) hx, Bool.or_assoc]
    congr 1
    rw [Bool.eq_iff_iff]
    simp only [Bool.or_eq_true, decide_eq_true_eq]
    omega
def fillsR : List (Nat × Nat) → Nat × Nat → Nat × Nat
  | [], s => s
  | r :: l, s => fillsR l (fillR r.1 0 r.2 s)
theorem fillsR_fit : ∀ (l : List (Nat × Nat)) (s : Nat × Nat), (∀ r ∈ l, r.1 + r.2 ≤ 128) → fitB s → fitB (fillsR l s)
  | [], _, _, h => h
  | r :: l, s, hl, h => fillsR_fit l _ (fun q hq => hl q (by simp [hq])) (fillR_fit _ _ _ (by have := hl r (by simp); omega) h)
theorem fillsR_has {x : Nat} (hx : x < 128) : ∀ (l : List (Nat × Nat)) (s : Nat × Nat), (∀ r ∈ l, r.1 + r.2 ≤ 128) → (hasB (fillsR l s) x = true ↔ hasB s x = true ∨ ∃ r ∈ l, r.1 ≤ x ∧ x < r.1 + r.2)
  | [], s, _ => by simp [fillsR]
  | r :: l, s, hl => by
    have h0 := hl r (by simp)
    rw [fillsR, fillsR_has hx l _ fun q hq => hl q (by simp [hq]), fillR_has hx _ _ _ (by omega), Bool.or_eq_true, decide_eq_true_eq]
    simp only [List.mem_cons, Nat.add_zero]
    constructor
    · rintro ((h | h) | ⟨q, hq, h⟩)
      · exact .inl h
      · exact .inr ⟨r, .inl rfl, h⟩
      · exact .inr ⟨q, .inr hq, h⟩
    · rintro (h | ⟨q, rfl | hq, h⟩)
      · exact .inl (.inl h)
      · exact .inl (.inr h)
      · exact .inr ⟨q, hq, h⟩
/-- the runs of a set are the set -/
theorem fills_runs {s : Nat × Nat} (h : fitB s) : fillsR (runsB s) (0, 0) = s := by
  have hl : ∀ r ∈ runsB s, r.1 + r.2 ≤ 128 := fun r hr => (runs_le hr).2
  refine ext_has (fillsR_fit _ _ hl ⟨by decide, by decide⟩) h fun j hj => ?_
  rw [Bool.eq_iff_iff, fillsR_has hj _ _ hl, mem_runs]
  have h0 : hasB (0, 0) j = false := by
    unfold hasB
    split <;> simp
  rw [h0]
  simp [hj]

/-! ### texts -/
def wordN (r : Nat × Nat) : List UInt8 := Go.Lib.decDigits r.1 ++ (if r.2 > 1 then 45 :: Go.Lib.decDigits (r.1 + r.2 - 1) else [])
def textB (s : Nat × Nat) : List UInt8 := Go.Lib.join ((runsB s).map wordN) [44]
end Go.Eng
end

/- Runs of sets as texts, and back, in plain terms. -/
section
namespace Go.Eng
open Go
set_option linter.unusedSectionVars false

theorem map_atN {α β : Type} {f g : α → β} {l : List α} (h : l.map f = l.map g) {x : α} (hx : x ∈ l) : f x = g x := List.map_inj_left.1 h x hx
/-- a number that a text begins with, and what stands behind it -/
def numL : Int → List UInt8 → Int × List UInt8
  | n, [] => (n, [])
  | n, d :: l => if 48 ≤ d.toNat ∧ d.toNat ≤ 57 ∧ n < 1000 then numL (10 * n + (d.toNat - 48)) l else (n, d :: l)
theorem numL_all (rest : List UInt8) : (List.range 128).map (fun n => numL 0 (Go.Lib.decDigits n ++ rest)) = (List.range 128).map (fun n => numL (n : Nat) rest) := by kernel_rfl
theorem numL_at {n : Nat} (h : n < 128) {rest : List UInt8} (hr : ∀ c l, rest = c :: l → ¬ (48 ≤ c.toNat ∧ c.toNat ≤ 57)) : numL 0 (Go.Lib.decDigits n ++ rest) = (((n : Nat) : Int), rest) := by
  rw [map_atN (numL_all rest) (List.mem_range.2 h)]
  cases rest with
  | nil => rfl
  | cons c l =>
    rw [numL, if_neg]
    intro q
    exact hr c l rfl ⟨q.1, q.2.1⟩
def okNum2 (n : Nat) : Bool := match Go.Lib.atoiAll (Go.Lib.decDigits n) with
  | .ok m => decide (m = n)
  | _ => false
theorem dec_all2 : (List.range 128).all (fun n => okNum2 n && (Go.Lib.decDigits n).all (fun b => decide (48 ≤ b.toNat) && decide (b.toNat ≤ 57)) && decide (1 ≤ (Go.Lib.decDigits n).length) && decide ((Go.Lib.decDigits n).length ≤ 3)) = true := by kernel_rfl
theorem dec_at2 {n : Nat} (h : n < 128) : Go.Lib.atoiAll (Go.Lib.decDigits n) = .ok (n : Int) ∧ (∀ b ∈ Go.Lib.decDigits n, 48 ≤ b.toNat ∧ b.toNat ≤ 57) ∧ 1 ≤ (Go.Lib.decDigits n).length ∧ (Go.Lib.decDigits n).length ≤ 3 := by
  have := List.all_eq_true.1 dec_all2 n (List.mem_range.2 h)
  simp only [Bool.and_eq_true, decide_eq_true_eq, List.all_eq_true] at this
  refine ⟨?_, this.1.1.2, this.1.2, this.2⟩
  have h2 := this.1.1.1
  unfold okNum2 at h2
  split at h2
  · rename_i m hm
    rw [hm, of_decide_eq_true h2]
  · cases h2

/-- the program's: the run that a word tells -/
def runW (w : List UInt8) : Option (Int × Int) := match Go.Lib.atoiAll (cut1 45 w).1 with
  | .ok m => if (cut1 45 w).2.2 then (match Go.Lib.atoiAll (cut1 45 w).2.1 with
      | .ok z => if 128 ≤ z ∨ m < 0 ∨ z < m then none else some (m, z - m + 1)
      | _ => none) else some (m, 1)
  | _ => none
theorem cut1_none {b : UInt8} : ∀ {l : List UInt8}, (∀ x ∈ l, x ≠ b) → cut1 b l = (l, [], false)
  | [], _ => rfl
  | c :: l, h => by
    rw [cut1, if_neg (h c (List.mem_cons_self)), cut1_none fun x hx => h x (List.mem_cons_of_mem _ hx)]
theorem cut1_some {b : UInt8} : ∀ {l r : List UInt8}, (∀ x ∈ l, x ≠ b) → cut1 b (l ++ b :: r) = (l, r, true)
  | [], r, _ => by simp [cut1]
  | c :: l, r, h => by
    rw [List.cons_append, cut1, if_neg (h c (List.mem_cons_self)), cut1_some fun x hx => h x (List.mem_cons_of_mem _ hx)]
theorem dec_ne {n : Nat} (h : n < 128) {b : UInt8} (hb : b.toNat < 48) : ∀ x ∈ Go.Lib.decDigits n, x ≠ b := by
  rintro x hx rfl
  have := (dec_at2 h).2.1 x hx
  omega
theorem runW_word {r : Nat × Nat} (h1 : 1 ≤ r.2) (h2 : r.1 + r.2 ≤ 128) : runW (wordN r) = some ((r.1 : Int), (r.2 : Int)) := by
  obtain ⟨a, n⟩ := r
  simp only at h1 h2
  unfold runW wordN
  simp only
  by_cases h : n > 1
  · rw [if_pos h, cut1_some (dec_ne (by omega) (by decide))]
    simp only [(dec_at2 (n := a) (by omega)).1, (dec_at2 (n := a + n - 1) (by omega)).1, if_true]
    rw [if_neg (by omega)]
    congr 2
    omega
  · rw [if_neg h, List.append_nil, cut1_none (dec_ne (by omega) (by decide))]
    simp only [(dec_at2 (n := a) (by omega)).1, Bool.false_eq_true, if_false]
    congr 2
    omega
theorem wordN_gap {r : Nat × Nat} (h2 : r.1 + r.2 ≤ 128) (h1 : 1 ≤ r.2) : ∀ x ∈ wordN r, x ≠ 44 := by
  intro x hx
  rcases List.mem_append.1 hx with hx | hx
  · exact dec_ne (by omega) (by decide) x hx
  · split at hx
    · rcases List.mem_cons.1 hx with rfl | hx
      · decide
      · exact dec_ne (by omega) (by decide) x hx
    · cases hx
theorem cutsL_one {b : UInt8} : ∀ {w : List UInt8}, (∀ x ∈ w, x ≠ b) → cutsL b w = [w]
  | [], _ => rfl
  | c :: w, h => by
    rw [cutsL, if_neg (h c (List.mem_cons_self)), cutsL_one fun x hx => h x (List.mem_cons_of_mem _ hx)]
theorem cutsL_cons {b : UInt8} : ∀ {w r : List UInt8}, (∀ x ∈ w, x ≠ b) → cutsL b (w ++ b :: r) = w :: cutsL b r
  | [], r, _ => by simp [cutsL]
  | c :: w, r, h => by
    rw [List.cons_append, cutsL, if_neg (h c (List.mem_cons_self)), cutsL_cons fun x hx => h x (List.mem_cons_of_mem _ hx)]
theorem cutsL_join {b : UInt8} : ∀ (w : List UInt8) (ws : List (List UInt8)), (∀ v ∈ w :: ws, ∀ x ∈ v, x ≠ b) → cutsL b (Go.Lib.join (w :: ws) [b]) = w :: ws
  | w, [], h => by
    rw [Go.Lib.join_one]
    exact cutsL_one (h w (by simp))
  | w, v :: ws, h => by
    have ih := cutsL_join v ws fun u hu => h u (by simp [hu])
    rw [Go.Lib.join_cons] at ih ⊢
    rw [show Go.Lib.joinTail [b] (v :: ws) = b :: (v ++ Go.Lib.joinTail [b] ws) from rfl, cutsL_cons (h w (by simp)), ih]

/-- the document's: numbers from a on, up to b or 127 -/
def fillTo (a b : Int) (s : Nat × Nat) : Nat × Nat := fillR a.toNat 0 (min b 127 + 1 - a).toNat s
/-- the document's: what a text tells -/
def refGo : Nat → List UInt8 → Nat × Nat → Option (Nat × Nat)
  | _, [], s => some s
  | 0, _ :: _, _ => none
  | f + 1, c :: l, s =>
    let p := numL 0 (c :: l)
    let q := match p.2 with
      | e :: l' => if e = 45 then numL 0 l' else p
      | [] => p
    match q.2 with
    | [] => some (fillTo p.1 q.1 s)
    | e :: l3 => if e = 44 then refGo f l3 (fillTo p.1 q.1 s) else none
theorem refGo_word {f : Nat} {r : Nat × Nat} (h1 : 1 ≤ r.2) (h2 : r.1 + r.2 ≤ 128) (rest : List UInt8) (hr : rest = [] ∨ ∃ l, rest = 44 :: l) (s : Nat × Nat) :
    refGo (f + 1) (wordN r ++ rest) s = match rest with
      | [] => some (fillR r.1 0 r.2 s)
      | _ :: l => refGo f l (fillR r.1 0 r.2 s) := by
  obtain ⟨a, n⟩ := r
  simp only at h1 h2
  have hd : ∀ c l, rest = c :: l → ¬ (48 ≤ c.toNat ∧ c.toNat ≤ 57) := by
    rintro c l rfl
    rcases hr with hr | ⟨l', hr⟩
    · cases hr
    · injection hr with hr _
      subst hr
      decide
  obtain ⟨x, xs, hx⟩ : ∃ x xs, Go.Lib.decDigits a = x :: xs := by
    have := (dec_at2 (n := a) (by omega)).2.2.1
    cases hda : Go.Lib.decDigits a with
    | nil => rw [hda] at this; simp at this
    | cons x xs => exact ⟨x, xs, rfl⟩
  have fin : ∀ (b : Int), b = ((a + n - 1 : Nat) : Int) → fillTo (a : Nat) b s = fillR a 0 n s := by
    rintro b rfl
    unfold fillTo
    congr 1
    omega
  by_cases h : n > 1
  · have e : wordN (a, n) ++ rest = Go.Lib.decDigits a ++ 45 :: (Go.Lib.decDigits (a + n - 1) ++ rest) := by
      unfold wordN
      simp only
      rw [if_pos h, List.append_assoc]
      rfl
    have q1 : numL 0 (Go.Lib.decDigits a ++ 45 :: (Go.Lib.decDigits (a + n - 1) ++ rest)) = (((a : Nat) : Int), 45 :: (Go.Lib.decDigits (a + n - 1) ++ rest)) := numL_at (by omega) (by rintro c l e; injection e with e _; subst e; decide)
    have q2 : numL 0 (Go.Lib.decDigits (a + n - 1) ++ rest) = (((a + n - 1 : Nat) : Int), rest) := numL_at (by omega) hd
    rw [e]
    rw [hx, List.cons_append] at q1 ⊢
    rw [refGo]
    simp only [q1, q2, if_true]
    rcases hr with rfl | ⟨l, rfl⟩
    · simp only
      rw [fin _ rfl]
    · simp only [if_true]
      rw [fin _ rfl]
  · have e : wordN (a, n) ++ rest = Go.Lib.decDigits a ++ rest := by
      unfold wordN
      simp only
      rw [if_neg h, List.append_nil]
    have q1 : numL 0 (Go.Lib.decDigits a ++ rest) = (((a : Nat) : Int), rest) := numL_at (by omega) hd
    have hn : n = 1 := by omega
    rw [e]
    rw [hx, List.cons_append] at q1 ⊢
    rw [refGo]
    rcases hr with rfl | ⟨l, rfl⟩
    · simp only [q1]
      rw [fin _ (by omega)]
    · simp only [q1, show ¬ (44 : UInt8) = 45 by decide, if_false, if_true]
      rw [fin _ (by omega)]
theorem refGo_words : ∀ (rs : List (Nat × Nat)) (r : Nat × Nat) (f : Nat) (s : Nat × Nat), (∀ q ∈ r :: rs, 1 ≤ q.2 ∧ q.1 + q.2 ≤ 128) → rs.length < f →
    refGo f (Go.Lib.join ((r :: rs).map wordN) [44]) s = some (fillsR (r :: rs) s)
  | [], r, f + 1, s, h, _ => by
    have h0 := h r (by simp)
    rw [List.map_cons, List.map_nil, Go.Lib.join_one, ← List.append_nil (wordN r), refGo_word h0.1 h0.2 [] (.inl rfl)]
    rfl
  | v :: rs, r, f + 1, s, h, hf => by
    have h0 := h r (by simp)
    have ih := refGo_words rs v f (fillR r.1 0 r.2 s) (fun q hq => h q (List.mem_cons_of_mem _ hq)) (by simp only [List.length_cons] at hf; omega)
    rw [List.map_cons, Go.Lib.join_cons] at ih ⊢
    rw [show Go.Lib.joinTail [44] ((v :: rs).map wordN) = 44 :: (wordN v ++ Go.Lib.joinTail [44] (rs.map wordN)) from rfl, refGo_word h0.1 h0.2 _ (.inr ⟨_, rfl⟩)]
    simp only
    rw [ih]
    rfl
  | _, _, 0, _, _, hf => by omega
end Go.Eng
end
