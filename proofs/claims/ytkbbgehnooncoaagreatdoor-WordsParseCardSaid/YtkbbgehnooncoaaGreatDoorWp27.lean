/- Numbers as texts, and back, in plain terms. -/
import Derived.Test.YtkbbgehnooncoaaGreatDoorWp26
import Derived.Lib.AtoiAll
import Derived.Lib.ItoaMem
section
namespace Go.Eng
open Go
set_option linter.unusedSectionVars false

theorem dec_small {u : Nat} (h : u < 10) : Go.Lib.decDigits u = [UInt8.ofNat (48 + u)] := by rw [Go.Lib.decDigits, dif_pos h]
theorem dec_big {u : Nat} (h : ¬ u < 10) : Go.Lib.decDigits u = Go.Lib.decDigits (u / 10) ++ [UInt8.ofNat (48 + u % 10)] := by rw [Go.Lib.decDigits, dif_neg h]
theorem dig_nat {k : Nat} (h : k < 10) : (UInt8.ofNat (48 + k)).toNat = 48 + k := by
  rw [UInt8.toNat_ofNat']
  omega
theorem dec_digits (u : Nat) : Go.Lib.decDigits u ≠ [] ∧ ∀ b ∈ Go.Lib.decDigits u, 48 ≤ b.toNat ∧ b.toNat ≤ 57 := by
  induction u using Nat.strongRecOn with
  | ind u ih =>
    by_cases h : u < 10
    · rw [dec_small h]
      refine ⟨by simp, fun b hb => ?_⟩
      rw [List.mem_singleton.1 hb, dig_nat h]
      omega
    · rw [dec_big h]
      have h1 := ih (u / 10) (by omega)
      refine ⟨by simp, fun b hb => ?_⟩
      rcases List.mem_append.1 hb with hb | hb
      · exact h1.2 b hb
      · rw [List.mem_singleton.1 hb, dig_nat (by omega)]
        omega
theorem parse_app (r : List UInt8) : ∀ (l : List UInt8) (acc u : Nat), Go.Lib.parseUint10 acc l = .ok u → Go.Lib.parseUint10 acc (l ++ r) = Go.Lib.parseUint10 u r
  | [], acc, u, h => by
    simp only [Go.Lib.parseUint10] at h
    injection h with h
    rw [h, List.nil_append]
  | c :: l, acc, u, h => by
    simp only [Go.Lib.parseUint10, List.cons_append] at h ⊢
    split at h
    · rename_i h1
      rw [if_pos h1]
      split at h
      · cases h
      · rename_i h2
        rw [if_neg h2]
        split at h
        · cases h
        · rename_i h3
          rw [if_neg h3]
          exact parse_app r l _ u h
    · cases h
theorem parse_dec (u : Nat) (hu : u < 18446744073709551616) : Go.Lib.parseUint10 0 (Go.Lib.decDigits u) = .ok u := by
  induction u using Nat.strongRecOn with
  | ind u ih =>
    by_cases h : u < 10
    · rw [dec_small h]
      simp only [Go.Lib.parseUint10, dig_nat h]
      rw [if_pos (by omega), if_neg (by omega), if_neg (by omega)]
      congr 1
      omega
    · rw [dec_big h, parse_app _ _ _ _ (ih (u / 10) (by omega) (by omega))]
      simp only [Go.Lib.parseUint10, dig_nat (Nat.mod_lt u (by decide : 10 > 0))]
      rw [if_pos (by omega), if_neg (by omega), if_neg (by omega)]
      congr 1
      omega
theorem mag_dec {u : Nat} (hu : u < 18446744073709551616) : Go.Lib.parseMag (Go.Lib.decDigits u) = .ok u := by
  unfold Go.Lib.parseMag
  rw [if_neg (dec_digits u).1, parse_dec u hu]
def fit64 (v : Int) : Prop := -9223372036854775808 ≤ v ∧ v < 9223372036854775808
theorem atoi_itoa {v : Int} (h : fit64 v) : Go.Lib.atoiAll (Go.Lib.itoa v) = .ok v := by
  obtain ⟨h0, h1⟩ := h
  by_cases hn : v < 0
  · obtain ⟨u, hu⟩ : ∃ u : Nat, v = -(u : Int) := ⟨v.natAbs, by omega⟩
    subst hu
    rw [Go.Lib.itoa_neg u (by omega)]
    unfold Go.Lib.atoiAll
    simp only
    rw [if_pos (.inr rfl), mag_dec (by omega)]
    simp only
    rw [if_neg (by intro q; exact q.1 rfl), if_neg (by intro q; omega)]
    rfl
  · obtain ⟨u, hu⟩ : ∃ u : Nat, v = (u : Int) := ⟨v.toNat, by omega⟩
    subst hu
    rw [Go.Lib.itoa_nonneg u]
    have hd := dec_digits u
    have hm := mag_dec (u := u) (by omega)
    cases he : Go.Lib.decDigits u with
    | nil => exact absurd he hd.1
    | cons c r =>
      rw [he] at hd hm
      have hc := hd.2 c (by simp)
      unfold Go.Lib.atoiAll
      simp only
      rw [if_neg (by omega), hm]
      simp only
      rw [if_neg (by intro q; omega), if_neg (by intro q; omega), if_neg (by omega)]
theorem atoi_fit {l : List UInt8} {v : Int} (h : Go.Lib.atoiAll l = .ok v) : fit64 v := by
  unfold Go.Lib.atoiAll at h
  split at h
  · cases h
  · split at h
    · cases h
    · cases h
    · rename_i u _
      simp only at h
      split at h
      · cases h
      · split at h
        · cases h
        · rename_i h1 h2
          injection h with h
          subst h
          unfold fit64
          split
          · rename_i h3
            have : ¬ 9223372036854775808 < u := fun q => h2 ⟨h3, q⟩
            omega
          · rename_i h3
            have : ¬ 9223372036854775808 ≤ u := fun q => h1 ⟨h3, q⟩
            omega
/-- the number that a word is to the program; 0: it is none -/
def numP (w : List UInt8) : Int := match Go.Lib.atoiAll w with
  | .ok v => v
  | _ => 0
theorem numP_itoa {v : Int} (h : fit64 v) : numP (Go.Lib.itoa v) = v := by
  unfold numP
  rw [atoi_itoa h]
theorem numP_fit (w : List UInt8) : fit64 (numP w) := by
  unfold numP
  split
  · rename_i v h
    exact atoi_fit h
  · unfold fit64; omega
/-- the document's: as well as can be told -/
def numG : Nat → Nat → List UInt8 → Nat
  | _, n, [] => n
  | 0, n, _ :: _ => n
  | k + 1, n, d :: l => numG k ((n * 10 % 18446744073709551616 + (d.toNat + 208) % 256) % 18446744073709551616) l
def numR (w : List UInt8) : Int := match w with
  | [] => 0
  | c :: r => if c = 45 then IntKind.wrap .i64 (((18446744073709551616 - numG 19 0 r) % 18446744073709551616 : Nat) : Int) else IntKind.wrap .i64 ((numG 20 0 (c :: r) : Nat) : Int)
theorem numG_app (r : List UInt8) : ∀ (l : List UInt8) (k n : Nat), l.length ≤ k → numG k n (l ++ r) = numG (k - l.length) (numG k n l) r
  | [], k, n, _ => by
    rw [List.nil_append, List.length_nil, Nat.sub_zero]
    cases k <;> rfl
  | d :: l, 0, n, h => by simp at h
  | d :: l, k + 1, n, h => by
    rw [List.length_cons] at h ⊢
    rw [List.cons_append, numG, numG_app r l k _ (by omega), numG, Nat.add_sub_add_right]
theorem numG_dec (u : Nat) (hu : u < 18446744073709551616) (k : Nat) (hk : (Go.Lib.decDigits u).length ≤ k) : numG k 0 (Go.Lib.decDigits u) = u := by
  induction u using Nat.strongRecOn generalizing k with
  | ind u ih =>
    by_cases h : u < 10
    · rw [dec_small h] at hk ⊢
      obtain ⟨j, rfl⟩ : ∃ j, k = j + 1 := ⟨k - 1, by simp at hk; omega⟩
      rw [numG, dig_nat h]
      cases j <;> (simp only [numG]; omega)
    · rw [dec_big h] at hk ⊢
      rw [List.length_append, List.length_singleton] at hk
      rw [numG_app _ _ _ _ (by omega), ih (u / 10) (by omega) (by omega) k (by omega)]
      obtain ⟨j, hj⟩ : ∃ j, k - (Go.Lib.decDigits (u / 10)).length = j + 1 := ⟨k - (Go.Lib.decDigits (u / 10)).length - 1, by omega⟩
      rw [hj, numG, dig_nat (Nat.mod_lt u (by decide : 10 > 0))]
      cases j <;> (simp only [numG]; omega)
theorem dec_len_lt : ∀ (k u : Nat), u < 10 ^ (k + 1) → (Go.Lib.decDigits u).length ≤ k + 1
  | 0, u, h => by rw [dec_small (by simpa using h)]; simp
  | k + 1, u, h => by
    by_cases h1 : u < 10
    · rw [dec_small h1]; simp
    · have ih := dec_len_lt k (u / 10) (by rw [Nat.pow_succ] at h; omega)
      rw [dec_big h1, List.length_append, List.length_singleton]
      omega
theorem wrap_fit {v : Int} (h : fit64 v) : IntKind.wrap .i64 v = v := by
  obtain ⟨h0, h1⟩ := h
  simp [IntKind.wrap, IntKind.bits, IntKind.signed]
  split <;> omega
theorem wrap_is (z : Int) : fit64 (IntKind.wrap .i64 z) := by
  unfold fit64
  simp [IntKind.wrap, IntKind.bits, IntKind.signed]
  split <;> omega
theorem numR_itoa {v : Int} (h : fit64 v) : numR (Go.Lib.itoa v) = v := by
  have hf := wrap_fit h
  obtain ⟨h0, h1⟩ := h
  by_cases hn : v < 0
  · obtain ⟨u, hu⟩ : ∃ u : Nat, v = -(u : Int) := ⟨v.natAbs, by omega⟩
    subst hu
    rw [Go.Lib.itoa_neg u (by omega)]
    unfold numR
    simp only
    rw [if_pos True.intro, numG_dec u (by omega) 19 (dec_len_lt 18 u (by omega)), Nat.mod_eq_of_lt (by omega)]
    simp [IntKind.wrap, IntKind.bits, IntKind.signed]
    split <;> omega
  · obtain ⟨u, hu⟩ : ∃ u : Nat, v = (u : Int) := ⟨v.toNat, by omega⟩
    subst hu
    rw [Go.Lib.itoa_nonneg u]
    have hd := dec_digits u
    have hm := numG_dec u (by omega) 20 (dec_len_lt 19 u (by omega))
    cases he : Go.Lib.decDigits u with
    | nil => exact absurd he hd.1
    | cons c r =>
      rw [he] at hd hm
      have hc := hd.2 c (by simp)
      unfold numR
      simp only
      rw [if_neg (by rintro rfl; exact absurd hc.1 (by decide)), hm, hf]
theorem numR_fit (w : List UInt8) : fit64 (numR w) := by
  unfold numR
  split
  · unfold fit64; omega
  · split
    · exact wrap_is _
    · exact wrap_is _
theorem itoa_chars (v : Int) : Go.Lib.itoa v ≠ [] ∧ ∀ b ∈ Go.Lib.itoa v, b ≠ 32 ∧ b ≠ 108 := by
  unfold Go.Lib.itoa
  have h1 := dec_digits v.natAbs
  have h2 := dec_digits v.toNat
  have hne : ∀ b : UInt8, 48 ≤ b.toNat ∧ b.toNat ≤ 57 → b ≠ 32 ∧ b ≠ 108 := fun b h => ⟨by rintro rfl; exact absurd h.1 (by decide), by rintro rfl; exact absurd h.2 (by decide)⟩
  split
  · refine ⟨by simp, fun b hb => ?_⟩
    rcases List.mem_cons.1 hb with rfl | hb
    · exact ⟨by decide, by decide⟩
    · exact hne b (h1.2 b hb)
  · exact ⟨h2.1, fun b hb => hne b (h2.2 b hb)⟩
end Go.Eng
end

/- Answers as lines, and back, in plain terms. -/
section
namespace Go.Eng
open Go
set_option linter.unusedSectionVars false

/-- an answer -/
structure An where
  why : Int
  n : Int
  m : Int
  data : List UInt8
  list : List Int
def fitA (x : An) : Prop := fit64 x.why ∧ fit64 x.n ∧ fit64 x.m ∧ ∀ v ∈ x.list, fit64 v
def okA (x : An) : Bool := decide (0 ≤ x.why) && decide (x.why ≤ 22) && (decide (x.data = []) || decide (x.data.length = 64)) && decide (x.list.length ≤ 60)
def wWhy : List UInt8 := [119, 104, 121]
def wN : List UInt8 := [110]
def wM : List UInt8 := [109]
def wData : List UInt8 := [100, 97, 116, 97]
def wList : List UInt8 := [108, 105, 115, 116]
/-- the words of a line -/
def secN (n : Int) : List (List UInt8) := if n = 0 then [] else [wN, Go.Lib.itoa n]
def secM (m : Int) : List (List UInt8) := if m = 0 then [] else [wM, Go.Lib.itoa m]
def secD (d : List UInt8) : List (List UInt8) := if d = [] then [] else wData :: wordsB 64 d
def secL (l : List Int) : List (List UInt8) := if l = [] then [] else wList :: l.map Go.Lib.itoa
def lineW (x : An) : List (List UInt8) := wWhy :: Go.Lib.itoa x.why :: (secN x.n ++ (secM x.m ++ (secD x.data ++ secL x.list)))
def lineP (x : An) : Option (List UInt8) := if okA x then some (Go.Lib.join (lineW x) [32]) else none
def an0 : An := ⟨0, 0, 0, [], []⟩

/-! ### the program's -/
def endP (x : An) (dt : List (List UInt8)) : An := match progL (Go.Lib.join dt [32]) with
  | some s => { x with data := s }
  | none => x
def guessP : Nat → List (List UInt8) → An → List (List UInt8) → An
  | 0, _, x, dt => endP x dt
  | f + 1, l, x, dt => match l with
    | name :: v :: rest =>
      if name = wWhy then guessP f rest { x with why := numP v } dt
      else if name = wN then guessP f rest { x with n := numP v } dt
      else if name = wM then guessP f rest { x with m := numP v } dt
      else if name = wData then guessP f ((v :: rest).dropWhile (fun w => !decide (w = wList))) x (dt ++ (v :: rest).takeWhile (fun w => !decide (w = wList)))
      else if name = wList then endP { x with list := x.list ++ (v :: rest).map numP } dt
      else endP x dt
    | _ => endP x dt
def progA (s : List UInt8) : Option An :=
  let x := guessP (cutsL 32 s).length (cutsL 32 s) an0 []
  if lineP x = some s then some x else none

/-! ### the document's -/
def wordR (s : List UInt8) : List UInt8 × List UInt8 := ((cut1 32 s).1, (cut1 32 s).2.1)
def untilL (w : List UInt8) : List UInt8 → List UInt8 × List UInt8
  | [] => ([], [])
  | c :: r => if w.isPrefixOf (c :: r) then ([], (c :: r).drop w.length) else (c :: (untilL w r).1, (untilL w r).2)
def listR : Nat → List UInt8 → List Int → List UInt8 × List Int
  | 0, rest, acc => (rest, acc)
  | k + 1, rest, acc => if rest = [] then (rest, acc) else listR k (wordR rest).2 (acc ++ [numR (wordR rest).1])
def behind (r : List UInt8) : List UInt8 := if r = [] then [] else wList ++ 32 :: r
def sepL : List UInt8 := [32, 108, 105, 115, 116, 32]
def guessR : Nat → List UInt8 → An → An
  | 0, _, x => x
  | k + 1, rest, x => if rest = [] then x else
    let p := wordR rest
    if p.1 = wN then guessR k (wordR p.2).2 { x with n := numR (wordR p.2).1 }
    else if p.1 = wM then guessR k (wordR p.2).2 { x with m := numR (wordR p.2).1 }
    else if p.1 = wData then guessR k (behind (untilL sepL p.2).2) { x with data := (refL (untilL sepL p.2).1).getD [] }
    else if p.1 = wList then guessR k (listR 61 p.2 x.list).1 { x with list := (listR 61 p.2 x.list).2 }
    else x
def refG (s : List UInt8) : An := guessR 4 (wordR (wordR s).2).2 { an0 with why := numR (wordR (wordR s).2).1 }
def refA (s : List UInt8) : Option An := if lineP (refG s) = some s then some (refG s) else none

/-! ### words -/
theorem hex_ne {c : UInt8} (h : c.toNat < 256) : ∀ b ∈ hexB c, b ≠ 32 ∧ b ≠ 108 := by
  have ha : (List.range 16).all (fun k => decide (hx k ≠ 32) && decide (hx k ≠ 108)) = true := by decide
  have hb : ∀ k < 16, hx k ≠ 32 ∧ hx k ≠ 108 := fun k hk => by
    have := List.all_eq_true.1 ha k (List.mem_range.2 hk)
    simpa using this
  intro b hm
  unfold hexB at hm
  rcases List.mem_cons.1 hm with rfl | hm
  · exact hb _ (by omega)
  · rw [List.mem_singleton.1 hm]
    exact hb _ (by omega)
theorem wordB_chars (c : UInt8) (n : Nat) : wordB c n ≠ [] ∧ ∀ b ∈ wordB c n, b ≠ 32 ∧ b ≠ 108 := by
  unfold wordB
  refine ⟨by simp [hexB], fun b hb => ?_⟩
  rcases List.mem_append.1 hb with hb | hb
  · exact hex_ne (UInt8.toNat_lt c) b hb
  · split at hb
    · rcases List.mem_cons.1 hb with rfl | hb
      · exact ⟨by decide, by decide⟩
      · have := (dec_digits n).2 b hb
        exact ⟨by rintro rfl; exact absurd this.1 (by decide), by rintro rfl; exact absurd this.2 (by decide)⟩
    · cases hb
theorem wordsB_chars {l : List UInt8} {k : Nat} : ∀ w ∈ wordsB k l, w ≠ [] ∧ ∀ b ∈ w, b ≠ 32 ∧ b ≠ 108 := by
  intro w hw
  unfold wordsB at hw
  obtain ⟨p, _, rfl⟩ := List.mem_map.1 hw
  exact wordB_chars p.1 p.2
theorem not_list {w : List UInt8} (h : ∀ b ∈ w, b ≠ 32 ∧ b ≠ 108) : w ≠ wList := by
  rintro rfl
  exact absurd rfl (h 108 (by simp [wList])).2
/-- a word of a line -/
def isW (w : List UInt8) : Prop := w ≠ [] ∧ ∀ b ∈ w, b ≠ 32
theorem isW_itoa (v : Int) : isW (Go.Lib.itoa v) := ⟨(itoa_chars v).1, fun b hb => ((itoa_chars v).2 b hb).1⟩
theorem secs_isW (x : An) : ∀ w ∈ lineW x, isW w := by
  have cN : isW wN := ⟨by decide, by decide⟩
  have cM : isW wM := ⟨by decide, by decide⟩
  have cD : isW wData := ⟨by decide, by decide⟩
  have cL : isW wList := ⟨by decide, by decide⟩
  have cW : isW wWhy := ⟨by decide, by decide⟩
  intro w hw
  unfold lineW at hw
  rcases List.mem_cons.1 hw with rfl | hw
  · exact cW
  rcases List.mem_cons.1 hw with rfl | hw
  · exact isW_itoa _
  rcases List.mem_append.1 hw with hw | hw
  · unfold secN at hw
    split at hw
    · cases hw
    · rcases List.mem_cons.1 hw with rfl | hw
      · exact cN
      · rw [List.mem_singleton.1 hw]; exact isW_itoa _
  rcases List.mem_append.1 hw with hw | hw
  · unfold secM at hw
    split at hw
    · cases hw
    · rcases List.mem_cons.1 hw with rfl | hw
      · exact cM
      · rw [List.mem_singleton.1 hw]; exact isW_itoa _
  rcases List.mem_append.1 hw with hw | hw
  · unfold secD at hw
    split at hw
    · cases hw
    · rcases List.mem_cons.1 hw with rfl | hw
      · exact cD
      · have := wordsB_chars w hw
        exact ⟨this.1, fun b hb => (this.2 b hb).1⟩
  · unfold secL at hw
    split at hw
    · cases hw
    · rcases List.mem_cons.1 hw with rfl | hw
      · exact cL
      · obtain ⟨v, _, rfl⟩ := List.mem_map.1 hw
        exact isW_itoa v
theorem line_cuts (x : An) : cutsL 32 (Go.Lib.join (lineW x) [32]) = lineW x := by
  have h := secs_isW x
  unfold lineW at h ⊢
  exact cuts_join _ _ fun v hv b hb => (h v hv).2 b hb
theorem guess_nil (f : Nat) (x : An) (dt : List (List UInt8)) : guessP f [] x dt = endP x dt := by cases f <;> rfl
theorem drop_words {ws L : List (List UInt8)} (h : ∀ w ∈ ws, w ≠ wList) (hL : L = [] ∨ ∃ r, L = wList :: r) :
    (ws ++ L).dropWhile (fun w => !decide (w = wList)) = L ∧ (ws ++ L).takeWhile (fun w => !decide (w = wList)) = ws := by
  induction ws with
  | nil =>
    rcases hL with rfl | ⟨r, rfl⟩
    · exact ⟨rfl, rfl⟩
    · simp
  | cons w ws ih =>
    have h0 := h w (by simp)
    have ih := ih fun v hv => h v (by simp [hv])
    simp [h0, ih.1, ih.2]
theorem secL_form (l : List Int) : secL l = [] ∨ ∃ r, secL l = wList :: r := by
  unfold secL
  split
  · exact .inl rfl
  · exact .inr ⟨_, rfl⟩
theorem endP_nil (x : An) : endP x [] = x := by
  unfold endP
  have : progL (Go.Lib.join [] [32]) = none := by decide
  rw [this]
theorem guess_list (l : List Int) (hl : ∀ v ∈ l, fit64 v) (f : Nat) (hf : (secL l).length ≤ f) (x : An) (dt : List (List UInt8)) : guessP f (secL l) x dt = endP { x with list := x.list ++ l } dt := by
  unfold secL at hf ⊢
  cases l with
  | nil =>
    rw [if_pos rfl, guess_nil, List.append_nil]
  | cons v l =>
    rw [if_neg (by simp)] at hf ⊢
    simp only [List.length_cons, List.map_cons] at hf ⊢
    obtain ⟨g, rfl⟩ : ∃ g, f = g + 1 := ⟨f - 1, by omega⟩
    rw [guessP]
    simp only
    rw [if_neg (by decide), if_neg (by decide), if_neg (by decide), if_neg (by decide), if_pos True.intro, ← List.map_cons, List.map_map]
    have : (v :: l).map (numP ∘ Go.Lib.itoa) = v :: l := by
      conv => rhs; rw [← List.map_id (v :: l)]
      exact List.map_congr_left fun u hu => numP_itoa (hl u hu)
    rw [this]
theorem guess_data (d : List UInt8) (hd : d = [] ∨ d.length = 64) (l : List Int) (hl : ∀ v ∈ l, fit64 v) (f : Nat) (hf : (secD d ++ secL l).length ≤ f) (x : An) (hx : x.data = []) :
    guessP f (secD d ++ secL l) x [] = { x with data := d, list := x.list ++ l } := by
  unfold secD at hf ⊢
  by_cases h0 : d = []
  · rw [if_pos h0, List.nil_append] at hf ⊢
    rw [guess_list l hl f hf, endP_nil, h0, ← hx]
  · have h64 := hd.resolve_left h0
    rw [if_neg h0] at hf ⊢
    obtain ⟨w, ws, hw⟩ := words_ne h64
    have hc := wordsB_chars (l := d) (k := 64)
    simp only [List.length_append, List.length_cons, List.cons_append] at hf ⊢
    obtain ⟨g, rfl⟩ : ∃ g, f = g + 1 := ⟨f - 1, by omega⟩
    have hdw := drop_words (ws := wordsB 64 d) (L := secL l) (fun v hv => not_list (hc v hv).2) (secL_form l)
    have hsh : progL (Go.Lib.join (wordsB 64 d) [32]) = some d := by
      have := progL_short h64
      unfold shortB at this
      rw [if_pos h64] at this
      exact this
    rw [hw] at hf hdw hsh ⊢
    rw [List.cons_append] at hdw ⊢
    rw [guessP]
    simp only
    rw [if_neg (by decide), if_neg (by decide), if_neg (by decide), if_pos True.intro, hdw.1, hdw.2, List.nil_append, guess_list l hl g (by simp only [List.length_cons] at hf; omega)]
    unfold endP
    rw [hsh]
theorem guess_line {x : An} (hf : fitA x) (ho : okA x = true) (f : Nat) (hl : (lineW x).length ≤ f) : guessP f (lineW x) an0 [] = x := by
  obtain ⟨h1, h2, h3, h4⟩ := hf
  have hd : x.data = [] ∨ x.data.length = 64 := by
    unfold okA at ho
    simp only [Bool.and_eq_true, Bool.or_eq_true, decide_eq_true_eq] at ho
    exact ho.1.2
  have eM : ∀ (g : Nat) (y : An), y.data = [] → y.m = 0 → y.list = [] → (secM x.m ++ (secD x.data ++ secL x.list)).length ≤ g →
      guessP g (secM x.m ++ (secD x.data ++ secL x.list)) y [] = { y with m := x.m, data := x.data, list := x.list } := by
    intro g y hy hm hy2 hg
    unfold secM at hg ⊢
    by_cases h0 : x.m = 0
    · rw [if_pos h0, List.nil_append] at hg ⊢
      rw [guess_data _ hd _ h4 g hg y hy, hy2, h0, ← hm]
      rfl
    · rw [if_neg h0] at hg ⊢
      simp only [List.length_append, List.length_cons, List.cons_append, List.nil_append] at hg ⊢
      obtain ⟨k, rfl⟩ : ∃ k, g = k + 1 := ⟨g - 1, by omega⟩
      rw [guessP]
      simp only
      rw [if_neg (by decide), if_neg (by decide), if_pos True.intro, guess_data _ hd _ h4 k (by rw [List.length_append]; omega) { y with m := numP (Go.Lib.itoa x.m) } hy, numP_itoa h3]
      simp only
      rw [hy2]
      rfl
  have eN : ∀ (g : Nat) (y : An), y.data = [] → y.n = 0 → y.m = 0 → y.list = [] → (secN x.n ++ (secM x.m ++ (secD x.data ++ secL x.list))).length ≤ g →
      guessP g (secN x.n ++ (secM x.m ++ (secD x.data ++ secL x.list))) y [] = { y with n := x.n, m := x.m, data := x.data, list := x.list } := by
    intro g y hy hn hm hy2 hg
    unfold secN at hg ⊢
    by_cases h0 : x.n = 0
    · rw [if_pos h0, List.nil_append] at hg ⊢
      rw [eM g y hy hm hy2 hg, h0, ← hn]
    · rw [if_neg h0] at hg ⊢
      simp only [List.length_append, List.length_cons, List.cons_append, List.nil_append] at hg ⊢
      obtain ⟨k, rfl⟩ : ∃ k, g = k + 1 := ⟨g - 1, by omega⟩
      rw [guessP]
      simp only
      rw [if_neg (by decide), if_pos True.intro, eM k { y with n := numP (Go.Lib.itoa x.n) } hy hm hy2 (by simp only [List.length_append]; omega), numP_itoa h2]
  unfold lineW at hl ⊢
  simp only [List.length_cons] at hl
  obtain ⟨k, rfl⟩ : ∃ k, f = k + 1 := ⟨f - 1, by omega⟩
  rw [guessP]
  simp only
  rw [if_pos True.intro, eN k _ rfl rfl rfl rfl (by omega), numP_itoa h1]
theorem progA_line {x : An} (hf : fitA x) {s : List UInt8} (h : lineP x = some s) : progA s = some x := by
  have hl := h
  unfold lineP at h
  split at h
  · rename_i ho
    injection h with h
    unfold progA
    rw [← h, line_cuts, guess_line hf ho _ (Nat.le_refl _), h]
    simp only
    rw [if_pos hl]
  · cases h
end Go.Eng
end

/- Answers as lines: both sides read a line alike, in plain terms. -/
section
namespace Go.Eng
open Go
set_option linter.unusedSectionVars false

def J (ws : List (List UInt8)) : List UInt8 := Go.Lib.join ws [32]
theorem c1_none {b : UInt8} : ∀ {l : List UInt8}, (∀ x ∈ l, x ≠ b) → cut1 b l = (l, [], false)
  | [], _ => rfl
  | x :: l, h => by
    rw [cut1, if_neg (h x (by simp)), c1_none fun y hy => h y (by simp [hy])]
theorem c1_some {b : UInt8} : ∀ {l r : List UInt8}, (∀ x ∈ l, x ≠ b) → cut1 b (l ++ b :: r) = (l, r, true)
  | [], r, _ => by rw [List.nil_append, cut1, if_pos rfl]
  | x :: l, r, h => by
    rw [List.cons_append, cut1, if_neg (h x (by simp)), c1_some fun y hy => h y (by simp [hy])]
theorem J_cons (w v : List UInt8) (ws : List (List UInt8)) : J (w :: v :: ws) = w ++ 32 :: J (v :: ws) := by
  unfold J
  rw [Go.Lib.join_cons, Go.Lib.join_cons]
  rfl
theorem J_one (w : List UInt8) : J [w] = w := Go.Lib.join_one _ _
theorem J_ne {w : List UInt8} {ws : List (List UInt8)} (h : w ≠ []) : J (w :: ws) ≠ [] := by
  cases ws with
  | nil => rw [J_one]; exact h
  | cons v ws => rw [J_cons]; simp
theorem J_app (A : List (List UInt8)) (v : List UInt8) (B : List (List UInt8)) (hA : A ≠ []) : J (A ++ v :: B) = J A ++ 32 :: J (v :: B) := by
  induction A with
  | nil => exact absurd rfl hA
  | cons w A ih =>
    cases A with
    | nil => rw [List.cons_append, List.nil_append, J_cons, J_one]
    | cons u A =>
      rw [List.cons_append, List.cons_append, J_cons, J_cons, ← List.cons_append, ih (by simp), List.append_assoc]
      rfl
theorem J_mem {ws : List (List UInt8)} {b : UInt8} (hb : b ∈ J ws) : b = 32 ∨ ∃ w ∈ ws, b ∈ w := by
  induction ws with
  | nil => cases hb
  | cons w ws ih =>
    cases ws with
    | nil =>
      rw [J_one] at hb
      exact .inr ⟨w, by simp, hb⟩
    | cons v ws =>
      rw [J_cons] at hb
      rcases List.mem_append.1 hb with hb | hb
      · exact .inr ⟨w, by simp, hb⟩
      · rcases List.mem_cons.1 hb with rfl | hb
        · exact .inl rfl
        · rcases ih hb with h | ⟨u, hu, h⟩
          · exact .inl h
          · exact .inr ⟨u, by simp [hu], h⟩
theorem wordR_J {w : List UInt8} {ws : List (List UInt8)} (h : ∀ b ∈ w, b ≠ 32) : wordR (J (w :: ws)) = (w, J ws) := by
  unfold wordR
  cases ws with
  | nil =>
    rw [J_one, c1_none h]
    rfl
  | cons v ws => rw [J_cons, c1_some h]
theorem listR_J : ∀ (l : List Int) (k : Nat) (acc : List Int), l.length ≤ k → (∀ v ∈ l, fit64 v) → listR k (J (l.map Go.Lib.itoa)) acc = ([], acc ++ l)
  | [], k, acc, _, _ => by
    rw [List.append_nil]
    cases k <;> rfl
  | v :: l, 0, acc, h, _ => by simp at h
  | v :: l, k + 1, acc, h, hl => by
    rw [List.length_cons] at h
    rw [List.map_cons, listR, if_neg (J_ne (itoa_chars v).1), wordR_J fun b hb => ((itoa_chars v).2 b hb).1, numR_itoa (hl v (by simp))]
    simp only
    rw [listR_J l k _ (by omega) fun u hu => hl u (by simp [hu]), List.append_assoc]
    rfl
theorem until_none : ∀ (s : List UInt8), (∀ b ∈ s, b ≠ 108) → untilL sepL s = (s, [])
  | [], _ => rfl
  | c :: r, h => by
    have hp : sepL.isPrefixOf (c :: r) = false := by
      cases r with
      | nil => simp [sepL, List.isPrefixOf]
      | cons d r =>
        have : d ≠ 108 := h d (by simp)
        simp [sepL, List.isPrefixOf, Ne.symm this]
    rw [untilL, hp, until_none r fun b hb => h b (by simp [hb])]
    rfl
theorem until_some (r : List UInt8) : ∀ (s : List UInt8), (∀ b ∈ s, b ≠ 108) → untilL sepL (s ++ (sepL ++ r)) = (s, r)
  | [], _ => by
    have hp : sepL.isPrefixOf (sepL ++ r) = true := by simp [sepL, List.isPrefixOf]
    rw [List.nil_append]
    show untilL sepL (32 :: (108 :: 105 :: 115 :: 116 :: 32 :: r)) = _
    rw [untilL, show sepL.isPrefixOf (32 :: (108 :: 105 :: 115 :: 116 :: 32 :: r)) = true from hp]
    rfl
  | c :: s, h => by
    have hp : sepL.isPrefixOf (c :: (s ++ (sepL ++ r))) = false := by
      cases s with
      | nil => simp [sepL, List.isPrefixOf]
      | cons d s =>
        have : d ≠ 108 := h d (by simp)
        simp [sepL, List.isPrefixOf, Ne.symm this]
    rw [List.cons_append, untilL, hp, until_some r s fun b hb => h b (by simp [hb])]
    rfl
theorem short_chars {d : List UInt8} (h : d.length = 64) : (∀ b ∈ shortB d, b ≠ 108) ∧ shortB d = J (wordsB 64 d) := by
  have e : shortB d = J (wordsB 64 d) := by
    unfold shortB
    rw [if_pos h]
    rfl
  refine ⟨fun b hb => ?_, e⟩
  rw [e] at hb
  rcases J_mem hb with rfl | ⟨w, hw, hb⟩
  · decide
  · exact ((wordsB_chars w hw).2 b hb).2
theorem guessR_nil (k : Nat) (x : An) : guessR k [] x = x := by
  cases k with
  | zero => rfl
  | succ k => rw [guessR, if_pos rfl]
theorem gR_list (l : List Int) (hl : ∀ v ∈ l, fit64 v) (h60 : l.length ≤ 60) (k : Nat) (x : An) : guessR (k + 1) (J (secL l)) x = { x with list := x.list ++ l } := by
  unfold secL
  cases l with
  | nil =>
    rw [if_pos rfl, List.append_nil]
    exact guessR_nil _ _
  | cons v l =>
    rw [if_neg (by simp), guessR, if_neg (J_ne (by decide)), wordR_J (w := wList) (by decide)]
    simp only
    rw [if_neg (by decide), if_neg (by decide), if_neg (by decide), if_pos True.intro, listR_J _ 61 _ (by omega) hl]
    simp only
    rw [guessR_nil]
theorem gR_data (d : List UInt8) (hd : d = [] ∨ d.length = 64) (l : List Int) (hl : ∀ v ∈ l, fit64 v) (h60 : l.length ≤ 60) (k : Nat) (x : An) (hx : x.data = []) (hx2 : x.list = []) :
    guessR (k + 2) (J (secD d ++ secL l)) x = { x with data := d, list := l } := by
  unfold secD
  by_cases h0 : d = []
  · rw [if_pos h0, List.nil_append, gR_list l hl h60 (k + 1), hx2, h0, ← hx]
    rfl
  · have h64 := hd.resolve_left h0
    rw [if_neg h0]
    obtain ⟨w, ws, hw⟩ := words_ne h64
    obtain ⟨hc, hs⟩ := short_chars h64
    rw [List.cons_append, guessR, if_neg (J_ne (by decide)), wordR_J (w := wData) (by decide)]
    simp only
    rw [if_neg (by decide), if_neg (by decide), if_pos True.intro]
    have hu : untilL sepL (J (wordsB 64 d ++ secL l)) = (shortB d, J (l.map Go.Lib.itoa)) := by
      unfold secL
      cases l with
      | nil =>
        rw [if_pos rfl, List.append_nil, ← hs, until_none _ hc]
        rfl
      | cons v l =>
        rw [if_neg (by simp), J_app _ _ _ (by rw [hw]; simp), ← hs, List.map_cons, J_cons]
        exact until_some _ _ hc
    have hb : behind (J (l.map Go.Lib.itoa)) = J (secL l) := by
      unfold behind secL
      cases l with
      | nil => rfl
      | cons v l =>
        rw [List.map_cons, if_neg (J_ne (itoa_chars v).1), if_neg (by simp), J_cons]
    rw [hu]
    simp only
    rw [hb, refL_short h64, gR_list l hl h60 k]
    simp only [Option.getD_some]
    rw [hx2]
    rfl
theorem gR_m (x : An) (h3 : fit64 x.m) (hd : x.data = [] ∨ x.data.length = 64) (hl : ∀ v ∈ x.list, fit64 v) (h60 : x.list.length ≤ 60) (k : Nat) (y : An) (hy : y.data = []) (hm : y.m = 0) (hy2 : y.list = []) :
    guessR (k + 3) (J (secM x.m ++ (secD x.data ++ secL x.list))) y = { y with m := x.m, data := x.data, list := x.list } := by
  unfold secM
  by_cases h0 : x.m = 0
  · rw [if_pos h0, List.nil_append, gR_data _ hd _ hl h60 (k + 1) y hy hy2, h0, ← hm]
  · rw [if_neg h0, List.cons_append, List.cons_append, List.nil_append, guessR, if_neg (J_ne (by decide)), wordR_J (w := wM) (by decide)]
    simp only
    rw [if_neg (by decide), if_pos True.intro, wordR_J fun b hb => ((itoa_chars x.m).2 b hb).1]
    simp only
    rw [gR_data _ hd _ hl h60 k { y with m := numR (Go.Lib.itoa x.m) } hy hy2, numR_itoa h3]
theorem gR_n (x : An) (h2 : fit64 x.n) (h3 : fit64 x.m) (hd : x.data = [] ∨ x.data.length = 64) (hl : ∀ v ∈ x.list, fit64 v) (h60 : x.list.length ≤ 60) (k : Nat) (y : An) (hy : y.data = []) (hn : y.n = 0) (hm : y.m = 0) (hy2 : y.list = []) :
    guessR (k + 4) (J (secN x.n ++ (secM x.m ++ (secD x.data ++ secL x.list)))) y = { y with n := x.n, m := x.m, data := x.data, list := x.list } := by
  unfold secN
  by_cases h0 : x.n = 0
  · rw [if_pos h0, List.nil_append, gR_m x h3 hd hl h60 (k + 1) y hy hm hy2, h0, ← hn]
  · rw [if_neg h0, List.cons_append, List.cons_append, List.nil_append, guessR, if_neg (J_ne (by decide)), wordR_J (w := wN) (by decide)]
    simp only
    rw [if_pos True.intro, wordR_J fun b hb => ((itoa_chars x.n).2 b hb).1]
    simp only
    rw [gR_m x h3 hd hl h60 k { y with n := numR (Go.Lib.itoa x.n) } hy hm hy2, numR_itoa h2]
theorem okA_parts {x : An} (ho : okA x = true) : (x.data = [] ∨ x.data.length = 64) ∧ x.list.length ≤ 60 := by
  unfold okA at ho
  simp only [Bool.and_eq_true, Bool.or_eq_true, decide_eq_true_eq] at ho
  exact ⟨ho.1.2, ho.2⟩
theorem refG_line {x : An} (hf : fitA x) (ho : okA x = true) : refG (Go.Lib.join (lineW x) [32]) = x := by
  obtain ⟨h1, h2, h3, h4⟩ := hf
  obtain ⟨hd, h60⟩ := okA_parts ho
  have e : Go.Lib.join (lineW x) [32] = J (wWhy :: Go.Lib.itoa x.why :: (secN x.n ++ (secM x.m ++ (secD x.data ++ secL x.list)))) := rfl
  unfold refG
  rw [e, wordR_J (w := wWhy) (by decide)]
  simp only
  rw [wordR_J fun b hb => ((itoa_chars x.why).2 b hb).1]
  simp only
  rw [gR_n x h2 h3 hd h4 h60 0 { an0 with why := numR (Go.Lib.itoa x.why) } rfl rfl rfl rfl, numR_itoa h1]
theorem endP_fit {x : An} (h : fitA x) (dt : List (List UInt8)) : fitA (endP x dt) := by
  unfold endP
  split
  · exact h
  · exact h
theorem guessP_fit : ∀ (f : Nat) (l : List (List UInt8)) (x : An) (dt : List (List UInt8)), fitA x → fitA (guessP f l x dt)
  | 0, _, x, dt, h => endP_fit h dt
  | f + 1, [], x, dt, h => endP_fit h dt
  | f + 1, [_], x, dt, h => endP_fit h dt
  | f + 1, name :: w :: rest, x, dt, h => by
    rw [guessP]
    split
    · exact guessP_fit f _ _ _ ⟨numP_fit _, h.2.1, h.2.2.1, h.2.2.2⟩
    · split
      · exact guessP_fit f _ _ _ ⟨h.1, numP_fit _, h.2.2.1, h.2.2.2⟩
      · split
        · exact guessP_fit f _ _ _ ⟨h.1, h.2.1, numP_fit _, h.2.2.2⟩
        · split
          · exact guessP_fit f _ _ _ h
          · split
            · refine endP_fit (x := { x with list := x.list ++ (w :: rest).map numP }) ⟨h.1, h.2.1, h.2.2.1, fun v hv => ?_⟩ dt
              rcases List.mem_append.1 hv with hv | hv
              · exact h.2.2.2 v hv
              · obtain ⟨w, _, rfl⟩ := List.mem_map.1 hv
                exact numP_fit w
            · exact endP_fit h dt
theorem listR_fit : ∀ (k : Nat) (rest : List UInt8) (acc : List Int), (∀ v ∈ acc, fit64 v) → ∀ v ∈ (listR k rest acc).2, fit64 v
  | 0, _, _, h => h
  | k + 1, rest, acc, h => by
    rw [listR]
    split
    · exact h
    · refine listR_fit k _ _ fun v hv => ?_
      rcases List.mem_append.1 hv with hv | hv
      · exact h v hv
      · rw [List.mem_singleton.1 hv]
        exact numR_fit _
theorem guessR_fit : ∀ (k : Nat) (rest : List UInt8) (x : An), fitA x → fitA (guessR k rest x)
  | 0, _, _, h => h
  | k + 1, rest, x, h => by
    rw [guessR]
    split
    · exact h
    · simp only
      split
      · exact guessR_fit k _ _ ⟨h.1, numR_fit _, h.2.2.1, h.2.2.2⟩
      · split
        · exact guessR_fit k _ _ ⟨h.1, h.2.1, numR_fit _, h.2.2.2⟩
        · split
          · exact guessR_fit k _ _ h
          · split
            · exact guessR_fit k _ _ ⟨h.1, h.2.1, h.2.2.1, listR_fit _ _ _ h.2.2.2⟩
            · exact h
theorem an0_fit : fitA an0 := by
  refine ⟨?_, ?_, ?_, fun v hv => by cases hv⟩ <;> (unfold fit64 an0; simp only; omega)
theorem progA_fit {s : List UInt8} {x : An} (h : progA s = some x) : fitA x ∧ lineP x = some s := by
  unfold progA at h
  simp only at h
  split at h
  · rename_i h1
    injection h with h
    subst h
    exact ⟨guessP_fit _ _ _ _ an0_fit, h1⟩
  · cases h
theorem refA_line {x : An} (hf : fitA x) {s : List UInt8} (h : lineP x = some s) : refA s = some x := by
  have hl := h
  unfold lineP at h
  split at h
  · rename_i ho
    injection h with h
    unfold refA
    rw [← h, refG_line hf ho, h, if_pos hl]
  · cases h
theorem show_eq (s : List UInt8) : progA s = refA s := by
  cases hp : progA s with
  | some x =>
    obtain ⟨h1, h2⟩ := progA_fit hp
    exact (refA_line h1 h2).symm
  | none =>
    cases hr : refA s with
    | none => rfl
    | some x =>
      unfold refA at hr
      split at hr
      · rename_i h1
        injection hr with hr
        subst hr
        have hf : fitA (refG s) := guessR_fit _ _ _ ⟨numR_fit _, an0_fit.2⟩
        rw [progA_line hf h1] at hp
        cases hp
      · cases hr
end Go.Eng
end

/- Steps as lines, and back, in plain terms: both sides read a line alike. -/
section
namespace Go.Eng
open Go
set_option linter.unusedSectionVars false
set_option linter.unusedSimpArgs false

/-- a step -/
structure Stw where
  kind : Int
  node : Int
  at_ : Int
  n : Int
  data : List UInt8
  stop : Int
  keep : List Bool
  deriving DecidableEq
def fitW (x : Stw) : Prop := fit64 x.kind ∧ fit64 x.node ∧ fit64 x.at_ ∧ fit64 x.n ∧ fit64 x.stop
def st00 : Stw := ⟨0, 0, 0, 0, [], 0, []⟩
def keepB (l : List Bool) : List UInt8 := l.map fun b => if b then 49 else 48
/-- what is kept, as a word -/
def keepW (l : List Bool) : List UInt8 := if l = [] then [45] else keepB l
/-- back -/
def isKb (b : UInt8) : Bool := b == 48 || b == 49
def kept (s : List UInt8) : Option (List Bool) := if s = [45] then some [] else if s = [] then none else if s.all isKb then some (s.map fun b => decide (b = 49)) else none
def keptD (s : List UInt8) : List Bool := (kept s).getD []
def kindsW : List (List UInt8) := [[], [114, 101, 97, 100], [119, 114, 105, 116, 101], [102, 108, 117, 115, 104], [115, 101, 97, 108], [99, 111, 110, 110, 101, 99, 116], [116, 105, 99, 107], [100, 101, 108, 105, 118, 101, 114], [108, 111, 115, 101], [116, 119, 105, 99, 101], [99, 117, 116], [100, 114, 111, 112], [99, 114, 97, 115, 104], [98, 111, 111, 116], [118, 105, 101, 119], [115, 99, 114, 117, 98]]
def kindW (k : Int) : List UInt8 := kindsW.getD k.toNat []
def kindFind (w : List UInt8) : List (List UInt8) → Nat → Int
  | [], _ => 0
  | v :: l, i => if w = v then i else kindFind w l (i + 1)
def kindOf (w : List UInt8) : Int := kindFind w kindsW 0
def wStop : List UInt8 := [115, 116, 111, 112]
abbrev kAt (k : Int) : Prop := k = 1 ∨ k = 14
abbrev kNode (k : Int) : Prop := k = 6 ∨ k = 15 ∨ k = 13
abbrev kN (k : Int) : Prop := k = 7 ∨ k = 8 ∨ k = 9
/-- with just the fields that its line names -/
def namedW (s : Stw) : Stw := ⟨s.kind, if kNode s.kind ∨ s.kind = 12 then s.node else 0, if kAt s.kind ∨ s.kind = 2 ∨ s.kind = 10 then s.at_ else 0, if kN s.kind ∨ s.kind = 10 then s.n else 0, if s.kind = 2 then s.data else [], s.stop, if 0 < s.stop ∨ s.kind = 12 then s.keep else []⟩
def argsW (x : Stw) : List (List UInt8) :=
  if kAt x.kind then [Go.Lib.itoa x.at_]
  else if x.kind = 2 then [Go.Lib.itoa x.at_, shortB x.data]
  else if kNode x.kind then [Go.Lib.itoa x.node]
  else if kN x.kind then [Go.Lib.itoa x.n]
  else if x.kind = 10 then [Go.Lib.itoa x.n, Go.Lib.itoa x.at_]
  else if x.kind = 12 then [Go.Lib.itoa x.node, keepW x.keep]
  else []
def stopW (x : Stw) : List (List UInt8) := if 0 < x.stop then [wStop, Go.Lib.itoa x.stop, keepW x.keep] else []
def lineWd (x : Stw) : List (List UInt8) := stopW x ++ kindW x.kind :: argsW x
def okW (x : Stw) : Bool := decide (1 ≤ x.kind) && (decide (x.kind ≤ 15) && (decide (0 ≤ x.stop) && (decide (¬ (0 < x.stop ∧ x.kind = 12)) && (decide (x.kind = 2 → x.data.length = 64) && decide (x = namedW x)))))
/-- a line, or why there is none -/
def lineS (x : Stw) : List UInt8 × Int := if okW x then (if 300 < (J (lineWd x)).length then ([], 8) else (J (lineWd x), 0)) else ([], 6)

def tailP (k : Int) (rest : List UInt8) (x : Stw) : Stw :=
  if kAt k then { x with at_ := numP (wordR rest).1 }
  else if k = 2 then { x with at_ := numP (wordR rest).1, data := (progL (wordR rest).2).getD [] }
  else if kNode k then { x with node := numP (wordR rest).1 }
  else if kN k then { x with n := numP (wordR rest).1 }
  else if k = 10 then { x with n := numP (wordR rest).1, at_ := numP (wordR (wordR rest).2).1 }
  else if k = 12 then { x with node := numP (wordR rest).1, keep := keptD (wordR (wordR rest).2).1 }
  else x
def tailR (k : Int) (rest : List UInt8) (x : Stw) : Stw :=
  if kAt k then { x with at_ := numR (wordR rest).1 }
  else if k = 2 then { x with at_ := numR (wordR rest).1, data := (refL (wordR rest).2).getD [] }
  else if kNode k then { x with node := numR (wordR rest).1 }
  else if kN k then { x with n := numR (wordR rest).1 }
  else if k = 10 then { x with n := numR (wordR rest).1, at_ := numR (wordR rest).2 }
  else if k = 12 then { x with node := numR (wordR rest).1, keep := keptD (wordR rest).2 }
  else x
/-- behind a word 'stop' -/
def r1 (s : List UInt8) : List UInt8 := (wordR s).2
def guessWP (s : List UInt8) : Stw :=
  if (wordR s).1 = wStop then tailP (kindOf (wordR (r1 (r1 (r1 s)))).1) (wordR (r1 (r1 (r1 s)))).2 { st00 with stop := numP (wordR (r1 s)).1, keep := keptD (wordR (r1 (r1 s))).1, kind := kindOf (wordR (r1 (r1 (r1 s)))).1 }
  else tailP (kindOf (wordR s).1) (r1 s) { st00 with kind := kindOf (wordR s).1 }
def guessWR (s : List UInt8) : Stw :=
  if (wordR s).1 = wStop then tailR (kindOf (wordR (r1 (r1 (r1 s)))).1) (wordR (r1 (r1 (r1 s)))).2 { st00 with stop := numR (wordR (r1 s)).1, keep := keptD (wordR (r1 (r1 s))).1, kind := kindOf (wordR (r1 (r1 (r1 s)))).1 }
  else tailR (kindOf (wordR s).1) (r1 s) { st00 with kind := kindOf (wordR s).1 }
/-- what a line is read as, or why it is none -/
def readW (g : List UInt8 → Stw) (s : List UInt8) : Stw × Int := if 300 < s.length then (st00, 8) else if lineS (g s) = (s, 0) then (g s, 0) else (st00, 6)

/-! ### words -/
theorem keepB_chars (l : List Bool) : ∀ b ∈ keepB l, isKb b = true := by
  intro b hb
  obtain ⟨x, _, rfl⟩ := List.mem_map.1 hb
  cases x <;> rfl
theorem keepW_chars (l : List Bool) : keepW l ≠ [] ∧ ∀ b ∈ keepW l, b ≠ 32 := by
  unfold keepW
  split
  · exact ⟨by simp, fun b hb => by rw [List.mem_singleton.1 hb]; decide⟩
  · rename_i h
    refine ⟨by simpa [keepB] using h, fun b hb => ?_⟩
    have := keepB_chars l b hb
    rintro rfl
    exact absurd this (by decide)
theorem kept_keep (l : List Bool) : kept (keepW l) = some l := by
  unfold keepW
  split
  · rename_i h
    rw [h]
    rfl
  · rename_i h
    have hc := keepB_chars l
    have h1 : keepB l ≠ [45] := by
      intro e
      have := hc 45 (by rw [e]; simp)
      exact absurd this (by decide)
    have h2 : keepB l ≠ [] := by simpa [keepB] using h
    unfold kept
    rw [if_neg h1, if_neg h2, if_pos (List.all_eq_true.2 hc)]
    unfold keepB
    rw [List.map_map]
    congr 1
    conv => rhs; rw [← List.map_id l]
    exact List.map_congr_left fun b _ => by cases b <;> rfl
theorem keptD_keep (l : List Bool) : keptD (keepW l) = l := by
  unfold keptD
  rw [kept_keep]
  rfl
theorem kind_all : (List.range 16).all (fun k => k == 0 || (decide (kindOf (kindW k) = k) && (decide (kindW k ≠ wStop) && (decide (kindW k ≠ []) && (kindW k).all fun b => decide (b ≠ 32))))) = true := by decide
theorem kind_back {k : Int} (h1 : 1 ≤ k) (h2 : k ≤ 15) : kindOf (kindW k) = k ∧ kindW k ≠ wStop ∧ kindW k ≠ [] ∧ ∀ b ∈ kindW k, b ≠ 32 := by
  obtain ⟨j, rfl⟩ : ∃ j : Nat, k = (j : Int) := ⟨k.toNat, by omega⟩
  have := List.all_eq_true.1 kind_all j (List.mem_range.2 (by omega))
  simp only [Bool.or_eq_true, beq_iff_eq, Bool.and_eq_true, decide_eq_true_eq] at this
  rcases this with h | ⟨h3, h4, h5, h6⟩
  · omega
  · exact ⟨h3, h4, h5, fun b hb => by simpa using List.all_eq_true.1 h6 b hb⟩
theorem itoa_nb (v : Int) : ∀ b ∈ Go.Lib.itoa v, b ≠ 32 := fun b hb => ((itoa_chars v).2 b hb).1
theorem wordR_one {w : List UInt8} (h : ∀ b ∈ w, b ≠ 32) : wordR w = (w, []) := by
  have := wordR_J (w := w) (ws := []) h
  rw [J_one] at this
  exact this
theorem okW_parts {x : Stw} (h : okW x = true) : 1 ≤ x.kind ∧ x.kind ≤ 15 ∧ 0 ≤ x.stop ∧ ¬ (0 < x.stop ∧ x.kind = 12) ∧ (x.kind = 2 → x.data.length = 64) ∧ x = namedW x := by
  unfold okW at h
  simp only [Bool.and_eq_true, decide_eq_true_eq] at h
  exact h
theorem named_eq {x : Stw} (h : x = namedW x) : (¬ (kNode x.kind ∨ x.kind = 12) → x.node = 0) ∧ (¬ (kAt x.kind ∨ x.kind = 2 ∨ x.kind = 10) → x.at_ = 0) ∧ (¬ (kN x.kind ∨ x.kind = 10) → x.n = 0) ∧ (x.kind ≠ 2 → x.data = []) ∧ (¬ (0 < x.stop ∨ x.kind = 12) → x.keep = []) := by
  have e1 := congrArg Stw.node h
  have e2 := congrArg Stw.at_ h
  have e3 := congrArg Stw.n h
  have e4 := congrArg Stw.data h
  have e5 := congrArg Stw.keep h
  simp only [namedW] at e1 e2 e3 e4 e5
  exact ⟨fun q => by rw [if_neg q] at e1; exact e1, fun q => by rw [if_neg q] at e2; exact e2, fun q => by rw [if_neg q] at e3; exact e3, fun q => by rw [if_neg q] at e4; exact e4, fun q => by rw [if_neg q] at e5; exact e5⟩
theorem wordR_JC {w : List UInt8} {ws : List (List UInt8)} (h : ∀ b ∈ w, b ≠ 32) : (wordR (J (w :: ws))).1 = w ∧ (wordR (J (w :: ws))).2 = J ws := by
  rw [wordR_J h]
  exact ⟨rfl, rfl⟩
/-- the tail of a line: its arguments, read back -/
theorem tail_line (R : Bool) {x : Stw} (hf : fitW x) (ho : okW x = true) (y : Stw) (hy : y.kind = x.kind) (h1 : y.node = 0) (h2 : y.at_ = 0) (h3 : y.n = 0) (h4 : y.data = []) (h5 : y.stop = x.stop) (h6 : y.keep = if 0 < x.stop then x.keep else []) :
    (if R then tailR x.kind (J (argsW x)) y else tailP x.kind (J (argsW x)) y) = x := by
  obtain ⟨k, n0, a0, m0, d0, s0, l0⟩ := x
  obtain ⟨k', n1, a1, m1, d1, s1, l1⟩ := y
  obtain ⟨f1, f2, f3, f4, f5⟩ := hf
  obtain ⟨o1, o2, o3, o4, o5, o6⟩ := okW_parts ho
  obtain ⟨z1, z2, z3, z4, z5⟩ := named_eq o6
  simp only at hy h1 h2 h3 h4 h5 h6 f1 f2 f3 f4 f5 o1 o2 o3 o4 o5 z1 z2 z3 z4 z5 ⊢
  subst hy h1 h2 h3 h4 h5 h6
  have hA := wordR_one (itoa_nb a0)
  have hN := wordR_one (itoa_nb n0)
  have hM := wordR_one (itoa_nb m0)
  have pA := numP_itoa f3
  have pN := numP_itoa f2
  have pM := numP_itoa f4
  have rA := numR_itoa f3
  have rN := numR_itoa f2
  have rM := numR_itoa f4
  have sp : ∀ (k1 : Nat), k' ≠ (k1 : Int) ∨ k' = (k1 : Int) := fun k1 => (Decidable.em _).symm
  unfold argsW tailR tailP
  simp only
  by_cases c1 : kAt k'
  · have t1 := z1 (by omega)
    have t3 := z3 (by omega)
    have t4 := z4 (by omega)
    have t5 : (if 0 < s1 then l0 else []) = l0 := by
      by_cases q : 0 < s1
      · rw [if_pos q]
      · rw [if_neg q, z5 (by omega)]
    simp only [if_pos c1, J_one, hA, pA, rA, t1, t3, t4, t5]
    cases R <;> rfl
  simp only [if_neg c1]
  by_cases c2 : k' = 2
  · have t1 := z1 (by omega)
    have t3 := z3 (by omega)
    have h64 := o5 c2
    have t5 : (if 0 < s1 then l0 else []) = l0 := by
      by_cases q : 0 < s1
      · rw [if_pos q]
      · rw [if_neg q, z5 (by omega)]
    have hw := wordR_J (w := Go.Lib.itoa a0) (ws := [shortB d0]) (itoa_nb a0)
    simp only [if_pos c2, hw, J_one, pA, rA, progL_short h64, refL_short h64, Option.getD_some, t1, t3, t5]
    cases R <;> rfl
  simp only [if_neg c2]
  have t4 := z4 c2
  by_cases c3 : kNode k'
  · have t2 := z2 (by omega)
    have t3 := z3 (by omega)
    have t5 : (if 0 < s1 then l0 else []) = l0 := by
      by_cases q : 0 < s1
      · rw [if_pos q]
      · rw [if_neg q, z5 (by omega)]
    simp only [if_pos c3, J_one, hN, pN, rN, t2, t3, t4, t5]
    cases R <;> rfl
  simp only [if_neg c3]
  by_cases c4 : kN k'
  · have t1 := z1 (by omega)
    have t2 := z2 (by omega)
    have t5 : (if 0 < s1 then l0 else []) = l0 := by
      by_cases q : 0 < s1
      · rw [if_pos q]
      · rw [if_neg q, z5 (by omega)]
    simp only [if_pos c4, J_one, hM, pM, rM, t1, t2, t4, t5]
    cases R <;> rfl
  simp only [if_neg c4]
  by_cases c5 : k' = 10
  · have t1 := z1 (by omega)
    have t5 : (if 0 < s1 then l0 else []) = l0 := by
      by_cases q : 0 < s1
      · rw [if_pos q]
      · rw [if_neg q, z5 (by omega)]
    have hw := wordR_J (w := Go.Lib.itoa m0) (ws := [Go.Lib.itoa a0]) (itoa_nb m0)
    simp only [if_pos c5, hw, J_one, hA, pM, rM, pA, rA, t1, t4, t5]
    cases R <;> rfl
  simp only [if_neg c5]
  by_cases c6 : k' = 12
  · have t2 := z2 (by omega)
    have t3 := z3 (by omega)
    have hw := wordR_J (w := Go.Lib.itoa n0) (ws := [keepW l0]) (itoa_nb n0)
    have hk := wordR_one (keepW_chars l0).2
    simp only [if_pos c6, hw, J_one, hk, pN, rN, keptD_keep, t2, t3, t4]
    cases R <;> rfl
  have t1 := z1 (by omega)
  have t2 := z2 (by omega)
  have t3 := z3 (by omega)
  have t5 : (if 0 < s1 then l0 else []) = l0 := by
    by_cases q : 0 < s1
    · rw [if_pos q]
    · rw [if_neg q, z5 (by omega)]
  simp only [if_neg c6, t1, t2, t3, t4, t5]
  cases R <;> rfl
theorem guess_line2 (R : Bool) {x : Stw} (hf : fitW x) (ho : okW x = true) : (if R then guessWR (J (lineWd x)) else guessWP (J (lineWd x))) = x := by
  obtain ⟨o1, o2, o3, o4, o5, o6⟩ := okW_parts ho
  obtain ⟨k1, k2, k3, k4⟩ := kind_back o1 o2
  have hs : ∀ b ∈ wStop, b ≠ 32 := by decide
  unfold guessWR guessWP lineWd stopW r1
  by_cases q : 0 < x.stop
  · have e1 := wordR_J (w := wStop) (ws := Go.Lib.itoa x.stop :: keepW x.keep :: kindW x.kind :: argsW x) hs
    have e2 := wordR_J (w := Go.Lib.itoa x.stop) (ws := keepW x.keep :: kindW x.kind :: argsW x) (itoa_nb x.stop)
    have e3 := wordR_J (w := keepW x.keep) (ws := kindW x.kind :: argsW x) (keepW_chars x.keep).2
    have e4 := wordR_J (w := kindW x.kind) (ws := argsW x) k4
    have tl := tail_line R hf ho { st00 with stop := x.stop, keep := x.keep, kind := x.kind } rfl rfl rfl rfl rfl rfl (by rw [if_pos q])
    have pS := numP_itoa hf.2.2.2.2
    have rS := numR_itoa hf.2.2.2.2
    rw [if_pos q, List.cons_append, List.cons_append, List.cons_append, List.nil_append]
    simp only [e1, e2, e3, e4, if_pos, pS, rS, keptD_keep, k1]
    exact tl
  · have e4 := wordR_J (w := kindW x.kind) (ws := argsW x) k4
    have hs0 : x.stop = 0 := by omega
    have tl := tail_line R hf ho { st00 with kind := x.kind } rfl rfl rfl rfl rfl hs0.symm (by rw [if_neg q]; rfl)
    rw [if_neg q, List.nil_append]
    simp only [e4, if_neg k2, k1]
    exact tl
theorem kindFind_le (w : List UInt8) : ∀ (l : List (List UInt8)) (i : Nat), 0 ≤ kindFind w l i ∧ kindFind w l i ≤ i + l.length
  | [], i => by unfold kindFind; omega
  | v :: l, i => by
    have ih := kindFind_le w l (i + 1)
    unfold kindFind
    rw [List.length_cons]
    split <;> omega
theorem kindOf_fit (w : List UInt8) : fit64 (kindOf w) := by
  have := kindFind_le w kindsW 0
  have hl : kindsW.length = 16 := rfl
  rw [hl] at this
  unfold fit64 kindOf
  omega
theorem fit0 : fit64 0 := by unfold fit64; omega
theorem tailP_fit (k : Int) (rest : List UInt8) {x : Stw} (h : fitW x) : fitW (tailP k rest x) := by
  obtain ⟨h1, h2, h3, h4, h5⟩ := h
  unfold tailP
  split
  · exact ⟨h1, h2, numP_fit _, h4, h5⟩
  split
  · exact ⟨h1, h2, numP_fit _, h4, h5⟩
  split
  · exact ⟨h1, numP_fit _, h3, h4, h5⟩
  split
  · exact ⟨h1, h2, h3, numP_fit _, h5⟩
  split
  · exact ⟨h1, h2, numP_fit _, numP_fit _, h5⟩
  split
  · exact ⟨h1, numP_fit _, h3, h4, h5⟩
  · exact ⟨h1, h2, h3, h4, h5⟩
theorem tailR_fit (k : Int) (rest : List UInt8) {x : Stw} (h : fitW x) : fitW (tailR k rest x) := by
  obtain ⟨h1, h2, h3, h4, h5⟩ := h
  unfold tailR
  split
  · exact ⟨h1, h2, numR_fit _, h4, h5⟩
  split
  · exact ⟨h1, h2, numR_fit _, h4, h5⟩
  split
  · exact ⟨h1, numR_fit _, h3, h4, h5⟩
  split
  · exact ⟨h1, h2, h3, numR_fit _, h5⟩
  split
  · exact ⟨h1, h2, numR_fit _, numR_fit _, h5⟩
  split
  · exact ⟨h1, numR_fit _, h3, h4, h5⟩
  · exact ⟨h1, h2, h3, h4, h5⟩
theorem guessWP_fit (s : List UInt8) : fitW (guessWP s) := by
  unfold guessWP
  split
  · exact tailP_fit _ _ ⟨kindOf_fit _, fit0, fit0, fit0, numP_fit _⟩
  · exact tailP_fit _ _ ⟨kindOf_fit _, fit0, fit0, fit0, fit0⟩
theorem guessWR_fit (s : List UInt8) : fitW (guessWR s) := by
  unfold guessWR
  split
  · exact tailR_fit _ _ ⟨kindOf_fit _, fit0, fit0, fit0, numR_fit _⟩
  · exact tailR_fit _ _ ⟨kindOf_fit _, fit0, fit0, fit0, fit0⟩
theorem lineS_ok {x : Stw} {s : List UInt8} (h : lineS x = (s, 0)) : okW x = true ∧ J (lineWd x) = s ∧ s.length ≤ 300 := by
  unfold lineS at h
  split at h
  · rename_i ho
    split at h
    · injection h with _ h
      exact absurd h (by decide)
    · rename_i h3
      injection h with h _
      exact ⟨ho, h, by rw [← h]; omega⟩
  · injection h with _ h
    exact absurd h (by decide)
/-- what has a line is read back out of it -/
theorem read_line (R : Bool) {x : Stw} (hf : fitW x) {s : List UInt8} (h : lineS x = (s, 0)) : readW (if R then guessWR else guessWP) s = (x, 0) := by
  obtain ⟨ho, hj, hl⟩ := lineS_ok h
  have hg := guess_line2 R hf ho
  rw [hj] at hg
  have hg' : (if R then guessWR else guessWP) s = x := by cases R <;> exact hg
  unfold readW
  rw [if_neg (by omega), hg', if_pos h]
theorem words_eq (s : List UInt8) : readW guessWP s = readW guessWR s := by
  by_cases hl : 300 < s.length
  · unfold readW
    rw [if_pos hl, if_pos hl]
  by_cases h1 : lineS (guessWP s) = (s, 0)
  · have e1 := read_line false (guessWP_fit s) h1
    have e2 := read_line true (guessWP_fit s) h1
    exact e1.trans e2.symm
  · by_cases h2 : lineS (guessWR s) = (s, 0)
    · have e1 := read_line false (guessWR_fit s) h2
      have e2 := read_line true (guessWR_fit s) h2
      exact e1.trans e2.symm
    · unfold readW
      rw [if_neg hl, if_neg hl, if_neg h1, if_neg h2]
theorem read_ok {g : List UInt8 → Stw} {s : List UInt8} {x : Stw} (h : readW g s = (x, 0)) : x = g s ∧ lineS x = (s, 0) := by
  unfold readW at h
  split at h
  · injection h with _ h
    exact absurd h (by decide)
  · split at h
    · rename_i h1
      injection h with h _
      exact ⟨h.symm, by rw [← h]; exact h1⟩
    · injection h with _ h
      exact absurd h (by decide)
end Go.Eng
end
