/- Sectors as short texts: what the document says, in plain terms. -/
import Derived.Test.YtkbbgehnooncoaaGreatDoorWp25
import Derived.KernelRfl
section
namespace Go.Eng
open Go
set_option linter.unusedSectionVars false

def ba (l : List UInt8) : ByteArray := ⟨l.toArray⟩
theorem ba_sz (l : List UInt8) : (ba l).size = l.length := by simp [ba, ByteArray.size]
theorem ba_at {l : List UInt8} {i : Nat} (h : i < l.length) : (ba l)[i]? = some l[i] := by
  have h' : i < (ba l).size := by rw [ba_sz]; exact h
  rw [getElem?_pos (ba l) i h']
  congr 1
theorem ba_list (l : List UInt8) : (ba l).toList = l := by rw [Go.Lib.toList_data]; rfl
theorem ba_of (s : ByteArray) : s = ba s.data.toList := by obtain ⟨⟨l⟩⟩ := s; rfl
theorem ba_drop (l : List UInt8) (n : Nat) : (ba l).extract n l.length = ba (l.drop n) := by
  apply ByteArray.ext
  apply Array.ext'
  rw [Go.Lib.extract_data]
  simp only [ba]
  rw [List.take_of_length_le (by simp)]

/-- a digit of sixteen -/
def hx (k : Nat) : UInt8 := [48, 49, 50, 51, 52, 53, 54, 55, 56, 57, 97, 98, 99, 100, 101, 102].getD k 0
def hexB (c : UInt8) : List UInt8 := [hx (c.toNat / 16), hx (c.toNat % 16)]
/-- a byte, and how many of it -/
def wordB (c : UInt8) (n : Nat) : List UInt8 := hexB c ++ (if n > 1 then 42 :: Go.Lib.decDigits n else [])
def longN : List UInt8 → Nat
  | [] => 1
  | c :: l => 1 + (l.takeWhile (· == c)).length
def runsF : Nat → List UInt8 → List (UInt8 × Nat)
  | 0, _ => []
  | _ + 1, [] => []
  | k + 1, c :: l => (c, longN (c :: l)) :: runsF k ((c :: l).drop (longN (c :: l)))
def wordsB (k : Nat) (l : List UInt8) : List (List UInt8) := (runsF k l).map fun p => wordB p.1 p.2
def sRow (l : List (List UInt8)) : Row := l.map fun w => [D.str (ba w)]
def shortB (l : List UInt8) : List UInt8 := if l.length = 64 then Go.Lib.join (wordsB 64 l) [32] else []

theorem u8_eq (x y : UInt8) : ((((x.toNat : Nat) : Int) == ((y.toNat : Nat) : Int)) = true) ↔ x = y := by
  rw [beq_iff_eq]
  constructor
  · intro h; exact UInt8.toNat_inj.1 (by omega)
  · rintro rfl; rfl
theorem longN_le (c : UInt8) (l : List UInt8) : longN (c :: l) ≤ l.length + 1 := by
  have := (List.takeWhile_sublist (p := (· == c)) (l := l)).length_le
  simp only [longN]; omega
theorem tw_eq (p : UInt8 → Bool) : ∀ (l : List UInt8) (i : Nat), i < (l.takeWhile p).length → ∃ x, l[i]? = some x ∧ p x = true
  | [], i, h => by simp at h
  | a :: l, i, h => by
    simp only [List.takeWhile_cons] at h
    split at h
    · rename_i ha
      cases i with
      | zero => exact ⟨a, rfl, ha⟩
      | succ i =>
        obtain ⟨x, h1, h2⟩ := tw_eq p l i (by simpa using h)
        exact ⟨x, by simpa using h1, h2⟩
    · simp at h
theorem tw_end (p : UInt8 → Bool) : ∀ (l : List UInt8) (x : UInt8), l[(l.takeWhile p).length]? = some x → p x = false
  | [], x, h => by simp at h
  | a :: l, x, h => by
    simp only [List.takeWhile_cons] at h
    split at h
    · exact tw_end p l x (by simpa using h)
    · rename_i ha
      simp at h
      subst h
      simpa using ha


/-! ### runs -/
theorem longN_pos (c : UInt8) (l : List UInt8) : 1 ≤ longN (c :: l) := by simp [longN]
theorem tw_rep (c : UInt8) : ∀ l : List UInt8, l.takeWhile (· == c) = List.replicate (l.takeWhile (· == c)).length c
  | [] => rfl
  | a :: l => by
    simp only [List.takeWhile_cons]
    split
    · rename_i h
      obtain rfl : a = c := by simpa using h
      simp only [List.length_cons, List.replicate_succ]
      rw [← tw_rep a l]
    · rfl
theorem tw_app (c : UInt8) : ∀ l : List UInt8, l.takeWhile (· == c) ++ l.drop (l.takeWhile (· == c)).length = l
  | [] => rfl
  | a :: l => by
    simp only [List.takeWhile_cons]
    split
    · simp only [List.length_cons, List.drop_succ_cons, List.cons_append]
      rw [tw_app c l]
    · rfl
theorem long_rep (c : UInt8) (l : List UInt8) : List.replicate (longN (c :: l)) c ++ (c :: l).drop (longN (c :: l)) = c :: l := by
  rw [longN, Nat.add_comm 1, List.replicate_succ, List.drop_succ_cons, List.cons_append, ← tw_rep, tw_app]
theorem runs_flat : ∀ (k : Nat) (l : List UInt8), l.length ≤ k → ((runsF k l).map fun p => List.replicate p.2 p.1).flatten = l
  | 0, l, h => by
    obtain rfl := List.length_eq_zero_iff.1 (Nat.le_zero.1 h)
    rfl
  | k + 1, [], _ => rfl
  | k + 1, c :: l, h => by
    have h1 := longN_pos c l
    simp only [List.length_cons] at h
    have ih := runs_flat k ((c :: l).drop (longN (c :: l))) (by simp only [List.length_drop, List.length_cons]; omega)
    simp only [runsF, List.map_cons, List.flatten_cons, ih]
    exact long_rep c l
theorem runs_le : ∀ (k : Nat) (l : List UInt8), ∀ p ∈ runsF k l, 1 ≤ p.2 ∧ p.2 ≤ l.length
  | 0, l, p, h => by simp [runsF] at h
  | k + 1, [], p, h => by simp [runsF] at h
  | k + 1, c :: l, p, h => by
    rcases List.mem_cons.1 (show p ∈ (c, longN (c :: l)) :: runsF k ((c :: l).drop (longN (c :: l))) from h) with rfl | h
    · exact ⟨longN_pos c l, by simpa using longN_le c l⟩
    · have := runs_le k _ p h
      simp only [List.length_drop] at this
      omega

/-! ### digits: what is shown by trying all -/
abbrev base16 : List UInt8 := [48, 49, 50, 51, 52, 53, 54, 55, 56, 57, 97, 98, 99, 100, 101, 102]
def digL (x : UInt8) : Int := if 48 ≤ x.toNat ∧ x.toNat ≤ 57 then x.toNat - 48 else if 97 ≤ x.toNat ∧ x.toNat ≤ 102 then x.toNat - 87 else -1
def byteP (a b : Int) : UInt8 := UInt8.ofNat (Int.toNat (IntKind.wrap IntKind.u8 (IntKind.wrap IntKind.i64 (((BitVec.toNat ((BitVec.ofInt 64 (IntKind.wrap IntKind.i64 (a * (16 : Int)))) ||| (BitVec.ofInt 64 b))) : Nat) : Int))))
def byteR (a b : Int) : UInt8 := UInt8.ofNat (Int.toNat (IntKind.wrap IntKind.u8 (IntKind.wrap IntKind.i64 ((IntKind.wrap IntKind.i64 ((16 : Int) * a)) + b))))
def runD : Int → List UInt8 → Int
  | n, [] => n
  | n, d :: l => if d.toNat < 48 ∨ 57 < d.toNat then 0 else runD (10 * n + (d.toNat - 48)) l
theorem hx_all : (List.range 16).all (fun k => decide (hx k ≠ 42) && decide (hx k ≠ 32) && decide (Go.Lib.indexByte base16 (hx k) = k) && decide (digL (hx k) = k)) = true := by kernel_rfl
theorem hx_at {k : Nat} (h : k < 16) : hx k ≠ 42 ∧ hx k ≠ 32 ∧ Go.Lib.indexByte base16 (hx k) = k ∧ digL (hx k) = k := by
  have := List.all_eq_true.1 hx_all k (List.mem_range.2 h)
  simp only [Bool.and_eq_true, decide_eq_true_eq] at this
  exact ⟨this.1.1.1, this.1.1.2, this.1.2, this.2⟩
theorem byte_all : (List.range 256).all (fun c => decide (byteP ((c / 16 : Nat) : Int) ((c % 16 : Nat) : Int) = UInt8.ofNat c) && decide (byteR ((c / 16 : Nat) : Int) ((c % 16 : Nat) : Int) = UInt8.ofNat c)) = true := by kernel_rfl
theorem byte_at (x : UInt8) : byteP ((x.toNat / 16 : Nat) : Int) ((x.toNat % 16 : Nat) : Int) = x ∧ byteR ((x.toNat / 16 : Nat) : Int) ((x.toNat % 16 : Nat) : Int) = x := by
  have := List.all_eq_true.1 byte_all x.toNat (List.mem_range.2 x.toNat_lt)
  simp only [Bool.and_eq_true, decide_eq_true_eq] at this
  exact ⟨this.1.trans (by simp), this.2.trans (by simp)⟩
def okNum (n : Nat) : Bool := match Go.Lib.atoiAll (Go.Lib.decDigits n) with
  | .ok m => decide (m = n)
  | _ => false
theorem num_all : (List.range 65).all (fun n => okNum n && decide (runD 0 (Go.Lib.decDigits n) = n) && decide ((Go.Lib.decDigits n).length = if n < 10 then 1 else 2) && (Go.Lib.decDigits n).all (fun b => decide (b ≠ 32))) = true := by kernel_rfl
theorem num_at {n : Nat} (h : n ≤ 64) : Go.Lib.atoiAll (Go.Lib.decDigits n) = .ok (n : Int) ∧ runD 0 (Go.Lib.decDigits n) = n ∧ ((Go.Lib.decDigits n).length = if n < 10 then 1 else 2) ∧ ∀ b ∈ Go.Lib.decDigits n, b ≠ 32 := by
  have := List.all_eq_true.1 num_all n (List.mem_range.2 (by omega))
  simp only [Bool.and_eq_true, decide_eq_true_eq, List.all_eq_true] at this
  refine ⟨?_, this.1.1.2, this.1.2, this.2⟩
  have h2 := this.1.1.1
  unfold okNum at h2
  split at h2
  · rename_i m hm
    rw [hm, of_decide_eq_true h2]
  · cases h2

/-! ### what words tell -/
/-- the program's: what a word tells -/
def partL (w : List UInt8) : Option (List UInt8) := match cut1 42 w with
  | ([a, b], d, star) => match (if star then (match Go.Lib.atoiAll d with
      | .ok n => some n
      | _ => none) else some 1) with
    | some n => if Go.Lib.indexByte base16 a < 0 ∨ Go.Lib.indexByte base16 b < 0 ∨ n < 1 ∨ 64 < n then none else some (List.replicate n.toNat (byteP (Go.Lib.indexByte base16 a) (Go.Lib.indexByte base16 b)))
    | none => none
  | _ => none
/-- the document's -/
def runL (w : List UInt8) : Int := if w.length = 2 then 1 else if w.length < 4 ∨ 5 < w.length ∨ w.getD 2 0 ≠ 42 then 0 else runD 0 (w.drop 3)
def undL (w : List UInt8) : Option (List UInt8) := match w with
  | a :: b :: _ => if digL a < 0 ∨ digL b < 0 then none else some (List.replicate (runL w).toNat (byteR (digL a) (digL b)))
  | _ => none
theorem word_eq (c : UInt8) (n : Nat) : wordB c n = hx (c.toNat / 16) :: hx (c.toNat % 16) :: (if n > 1 then 42 :: Go.Lib.decDigits n else []) := rfl
theorem part_word {c : UInt8} {n : Nat} (h1 : 1 ≤ n) (h2 : n ≤ 64) : partL (wordB c n) = some (List.replicate n c) := by
  have hc := c.toNat_lt
  obtain ⟨a1, _, a3, _⟩ := hx_at (k := c.toNat / 16) (by omega)
  obtain ⟨b1, _, b3, _⟩ := hx_at (k := c.toNat % 16) (by omega)
  obtain ⟨n1, _⟩ := num_at h2
  have hb := (byte_at c).1
  rw [word_eq]
  by_cases h : n > 1
  · rw [if_pos h]
    simp only [partL, cut1, if_neg a1, if_neg b1, if_true, n1, a3, b3, hb, Int.toNat_natCast]
    rw [if_neg (by omega)]
  · rw [if_neg h]
    obtain rfl : n = 1 := by omega
    simp only [partL, cut1, if_neg a1, if_neg b1, a3, b3, hb, Bool.false_eq_true, if_false]
    rw [if_neg (by omega)]
    rfl
theorem und_word {c : UInt8} {n : Nat} (h1 : 1 ≤ n) (h2 : n ≤ 64) : undL (wordB c n) = some (List.replicate n c) := by
  have hc := c.toNat_lt
  obtain ⟨_, _, _, a4⟩ := hx_at (k := c.toNat / 16) (by omega)
  obtain ⟨_, _, _, b4⟩ := hx_at (k := c.toNat % 16) (by omega)
  obtain ⟨_, n2, n3, _⟩ := num_at h2
  have hb := (byte_at c).2
  have hr : runL (wordB c n) = n := by
    rw [word_eq]
    by_cases h : n > 1
    · rw [if_pos h, runL]
      have hl : 1 ≤ (Go.Lib.decDigits n).length ∧ (Go.Lib.decDigits n).length ≤ 2 := by rw [n3]; split <;> omega
      rw [if_neg (by simp only [List.length_cons]; omega), if_neg (by simp only [List.length_cons]; simp; omega)]
      exact n2
    · rw [if_neg h]
      obtain rfl : n = 1 := by omega
      rfl
  have e : ¬ (digL (hx (c.toNat / 16)) < 0 ∨ digL (hx (c.toNat % 16)) < 0) := by rw [a4, b4]; omega
  show (if digL (hx (c.toNat / 16)) < 0 ∨ digL (hx (c.toNat % 16)) < 0 then none else some (List.replicate (runL (wordB c n)).toNat (byteR (digL (hx (c.toNat / 16))) (digL (hx (c.toNat % 16)))))) = _
  rw [if_neg e, hr, a4, b4, hb, Int.toNat_natCast]
theorem word_len {c : UInt8} {n : Nat} (h1 : 1 ≤ n) (h2 : n ≤ 64) : (wordB c n).length + 1 ≤ 3 * n := by
  obtain ⟨_, _, n3, _⟩ := num_at h2
  rw [word_eq]
  by_cases h : n > 1
  · rw [if_pos h]
    simp only [List.length_cons, n3]
    split <;> omega
  · rw [if_neg h]
    simp only [List.length_cons, List.length_nil]
    omega
theorem word_gap {c : UInt8} {n : Nat} (h2 : n ≤ 64) : ∀ b ∈ wordB c n, b ≠ 32 := by
  have hc := c.toNat_lt
  obtain ⟨_, a2, _⟩ := hx_at (k := c.toNat / 16) (by omega)
  obtain ⟨_, b2, _⟩ := hx_at (k := c.toNat % 16) (by omega)
  obtain ⟨_, _, _, n4⟩ := num_at h2
  intro b hb
  rw [word_eq] at hb
  rcases List.mem_cons.1 hb with rfl | hb
  · exact a2
  rcases List.mem_cons.1 hb with rfl | hb
  · exact b2
  split at hb
  · rcases List.mem_cons.1 hb with rfl | hb
    · decide
    · exact n4 b hb
  · cases hb

/-! ### texts of words -/
theorem cuts_one {b : UInt8} : ∀ {w : List UInt8}, (∀ x ∈ w, x ≠ b) → cutsL b w = [w]
  | [], _ => rfl
  | c :: w, h => by
    rw [cutsL, if_neg (h c (List.mem_cons_self)), cuts_one (fun x hx => h x (List.mem_cons_of_mem _ hx))]
theorem cuts_cons {b : UInt8} : ∀ {w r : List UInt8}, (∀ x ∈ w, x ≠ b) → cutsL b (w ++ b :: r) = w :: cutsL b r
  | [], r, _ => by simp [cutsL]
  | c :: w, r, h => by
    rw [List.cons_append, cutsL, if_neg (h c (by simp)), cuts_cons fun x hx => h x (by simp [hx])]
theorem cuts_join {b : UInt8} : ∀ (w : List UInt8) (ws : List (List UInt8)), (∀ v ∈ w :: ws, ∀ x ∈ v, x ≠ b) → cutsL b (Go.Lib.join (w :: ws) [b]) = w :: ws
  | w, [], h => by
    rw [Go.Lib.join_one]
    exact cuts_one (h w (by simp))
  | w, v :: ws, h => by
    have ih := cuts_join v ws fun u hu => h u (by simp [hu])
    rw [Go.Lib.join_cons] at ih ⊢
    rw [show Go.Lib.joinTail [b] (v :: ws) = b :: (v ++ Go.Lib.joinTail [b] ws) from rfl, cuts_cons (h w (by simp)), ih]

/-! ### Long -/
def progF : List (List UInt8) → List UInt8 → Option (List UInt8)
  | [], acc => some acc
  | w :: ws, acc => match partL w with
    | none => none
    | some p => if 64 < acc.length + p.length then none else progF ws (acc ++ p)
def refF : List (List UInt8) → List UInt8 → Option (List UInt8)
  | [], acc => some acc
  | w :: ws, acc => match undL w with
    | none => none
    | some p => refF ws (acc ++ p)
def progL (t : List UInt8) : Option (List UInt8) := match progF (cutsL 32 t) [] with
  | none => none
  | some o => if t = [] ∨ shortB o ≠ t then none else some o
def refL (t : List UInt8) : Option (List UInt8) := if 200 < t.length then none else match refF (cutsL 32 t) [] with
  | none => none
  | some o => if shortB o ≠ t ∨ t = [] then none else some o
theorem progF_words : ∀ (ps : List (UInt8 × Nat)) (acc : List UInt8), (∀ p ∈ ps, 1 ≤ p.2 ∧ p.2 ≤ 64) → acc.length + ((ps.map fun p => List.replicate p.2 p.1).flatten).length ≤ 64 →
    progF (ps.map fun p => wordB p.1 p.2) acc = some (acc ++ (ps.map fun p => List.replicate p.2 p.1).flatten)
  | [], acc, _, _ => by simp [progF]
  | p :: ps, acc, h, hl => by
    obtain ⟨h1, h2⟩ := h p (by simp)
    simp only [List.map_cons, List.flatten_cons, List.length_append, List.length_replicate] at hl ⊢
    simp only [progF, part_word h1 h2, List.length_replicate]
    rw [if_neg (by omega), progF_words ps _ (fun q hq => h q (by simp [hq])) (by simp only [List.length_append, List.length_replicate]; omega), List.append_assoc]
theorem refF_words : ∀ (ps : List (UInt8 × Nat)) (acc : List UInt8), (∀ p ∈ ps, 1 ≤ p.2 ∧ p.2 ≤ 64) →
    refF (ps.map fun p => wordB p.1 p.2) acc = some (acc ++ (ps.map fun p => List.replicate p.2 p.1).flatten)
  | [], acc, _ => by simp [refF]
  | p :: ps, acc, h => by
    obtain ⟨h1, h2⟩ := h p (by simp)
    simp only [List.map_cons, List.flatten_cons, refF, und_word h1 h2]
    rw [refF_words ps _ (fun q hq => h q (by simp [hq])), List.append_assoc]
theorem lens_words : ∀ (ps : List (UInt8 × Nat)), (∀ p ∈ ps, 1 ≤ p.2 ∧ p.2 ≤ 64) → Go.Lib.lens (ps.map fun p => wordB p.1 p.2) + ps.length ≤ 3 * ((ps.map fun p => List.replicate p.2 p.1).flatten).length
  | [], _ => by simp [Go.Lib.lens]
  | p :: ps, h => by
    obtain ⟨h1, h2⟩ := h p (by simp)
    have := word_len (c := p.1) h1 h2
    have ih := lens_words ps fun q hq => h q (by simp [hq])
    simp only [Go.Lib.lens, List.map_cons, List.sum_cons, List.length_cons, List.flatten_cons, List.length_append, List.length_replicate] at ih ⊢
    omega
theorem words_ne {l : List UInt8} (h : l.length = 64) : ∃ w ws, wordsB 64 l = w :: ws := by
  obtain ⟨c, l, rfl⟩ : ∃ c l', l = c :: l' := by cases l with
    | nil => simp at h
    | cons c l => exact ⟨c, l, rfl⟩
  exact ⟨_, _, rfl⟩
theorem short_len {l : List UInt8} (h : l.length = 64) : (shortB l).length ≤ 191 ∧ shortB l ≠ [] := by
  have h1 := lens_words (runsF 64 l) (fun p hp => by have := runs_le 64 l p hp; omega)
  rw [runs_flat 64 l (by omega)] at h1
  obtain ⟨w, ws, e⟩ := words_ne h
  have e2 : (runsF 64 l).map (fun p => wordB p.1 p.2) = w :: ws := e
  have e3 : (runsF 64 l).length = ws.length + 1 := by rw [← List.length_map (f := fun p => wordB p.1 p.2), e2, List.length_cons]
  rw [e2, e3] at h1
  rw [shortB, if_pos h, e]
  refine ⟨?_, ?_⟩
  · rw [Go.Lib.join_length]
    simp only [List.length_singleton]
    omega
  · obtain ⟨p, _, hp⟩ := List.mem_map.1 (show w ∈ (runsF 64 l).map (fun p => wordB p.1 p.2) by rw [e2]; simp)
    rw [Go.Lib.join_cons, ← hp, word_eq]
    simp
theorem short_cuts {l : List UInt8} (h : l.length = 64) : cutsL 32 (shortB l) = wordsB 64 l := by
  obtain ⟨w, ws, e⟩ := words_ne h
  rw [shortB, if_pos h, e]
  refine cuts_join w ws fun v hv => ?_
  rw [← e] at hv
  obtain ⟨p, hp, rfl⟩ := List.mem_map.1 hv
  have := runs_le 64 l p hp
  exact word_gap (by omega)
theorem progL_short {l : List UInt8} (h : l.length = 64) : progL (shortB l) = some l := by
  rw [progL, short_cuts h, wordsB, progF_words _ _ (fun p hp => by have := runs_le 64 l p hp; omega) (by rw [runs_flat 64 l (by omega)]; simp [h]), runs_flat 64 l (by omega)]
  simp only [List.nil_append]
  rw [if_neg (by simp [(short_len h).2])]
theorem refL_short {l : List UInt8} (h : l.length = 64) : refL (shortB l) = some l := by
  have := (short_len h).1
  rw [refL, if_neg (by omega), short_cuts h, wordsB, refF_words _ _ (fun p hp => by have := runs_le 64 l p hp; omega), runs_flat 64 l (by omega)]
  simp only [List.nil_append]
  rw [if_neg (by simp [(short_len h).2])]
theorem short_of {o t : List UInt8} (h1 : t ≠ []) (h2 : shortB o = t) : o.length = 64 := by
  unfold shortB at h2
  split at h2
  · assumption
  · exact absurd h2.symm h1
theorem progL_some {t o : List UInt8} (h : progL t = some o) : shortB o = t ∧ o.length = 64 := by
  unfold progL at h
  split at h
  · cases h
  · rename_i o' _
    split at h
    · cases h
    · rename_i hc
      simp only [not_or, ne_eq, Decidable.not_not] at hc
      injection h with h
      subst h
      exact ⟨hc.2, short_of hc.1 hc.2⟩
theorem refL_some {t o : List UInt8} (h : refL t = some o) : shortB o = t ∧ o.length = 64 := by
  unfold refL at h
  split at h
  · cases h
  split at h
  · cases h
  · rename_i o' _
    split at h
    · cases h
    · rename_i hc
      simp only [not_or, ne_eq, Decidable.not_not] at hc
      injection h with h
      subst h
      exact ⟨hc.1, short_of hc.2 hc.1⟩
theorem long_eq (t : List UInt8) : progL t = refL t := by
  cases hp : progL t with
  | some o =>
    obtain ⟨h1, h2⟩ := progL_some hp
    rw [← h1, refL_short h2]
  | none =>
    cases hr : refL t with
    | none => rfl
    | some o =>
      obtain ⟨h1, h2⟩ := refL_some hr
      rw [← h1, progL_short h2] at hp
      cases hp

end Go.Eng
end
