/- Numbers as texts, and back, in plain terms. -/
import Derived.Test.YtnkiegafaiebiaaDoorSp25
import Derived.Lib.AtoiAll
import Derived.Lib.ItoaMem
section
namespace Go.Eng
open Go
set_option linter.unusedSectionVars false

theorem dec_small {u : Nat} (h : u < 10) : Go.Lib.decDigits u = [UInt8.ofNat (48 + u)] := by rw [Go.Lib.decDigits, dif_pos h]
theorem dec_big {u : Nat} (h : ¬ u < 10) : Go.Lib.decDigits u = Go.Lib.decDigits (u / 10) ++ [UInt8.ofNat (48 + u % 10)] := by rw [Go.Lib.decDigits, dif_neg h]
theorem dig_nat {k : Nat} (h : k < 10) : (UInt8.ofNat (48 + k)).toNat = 48 + k := by
  rw [UInt8.toNat_ofNat']
  omega
theorem dec_digits (u : Nat) : Go.Lib.decDigits u ≠ [] ∧ ∀ b ∈ Go.Lib.decDigits u, 48 ≤ b.toNat ∧ b.toNat ≤ 57 := by
  induction u using Nat.strongRecOn with
  | ind u ih =>
    by_cases h : u < 10
    · rw [dec_small h]
      refine ⟨by simp, fun b hb => ?_⟩
      rw [List.mem_singleton.1 hb, dig_nat h]
      omega
    · rw [dec_big h]
      have h1 := ih (u / 10) (by omega)
      refine ⟨by simp, fun b hb => ?_⟩
      rcases List.mem_append.1 hb with hb | hb
      · exact h1.2 b hb
      · rw [List.mem_singleton.1 hb, dig_nat (by omega)]
        omega
theorem parse_app (r : List UInt8) : ∀ (l : List UInt8) (acc u : Nat), Go.Lib.parseUint10 acc l = .ok u → Go.Lib.parseUint10 acc (l ++ r) = Go.Lib.parseUint10 u r
  | [], acc, u, h => by
    simp only [Go.Lib.parseUint10] at h
    injection h with h
    rw [h, List.nil_append]
  | c :: l, acc, u, h => by
    simp only [Go.Lib.parseUint10, List.cons_append] at h ⊢
    split at h
    · rename_i h1
      rw [if_pos h1]
      split at h
      · cases h
      · rename_i h2
        rw [if_neg h2]
        split at h
        · cases h
        · rename_i h3
          rw [if_neg h3]
          exact parse_app r l _ u h
    · cases h
theorem parse_dec (u : Nat) (hu : u < 18446744073709551616) : Go.Lib.parseUint10 0 (Go.Lib.decDigits u) = .ok u := by
  induction u using Nat.strongRecOn with
  | ind u ih =>
    by_cases h : u < 10
    · rw [dec_small h]
      simp only [Go.Lib.parseUint10, dig_nat h]
      rw [if_pos (by omega), if_neg (by omega), if_neg (by omega)]
      congr 1
      omega
    · rw [dec_big h, parse_app _ _ _ _ (ih (u / 10) (by omega) (by omega))]
      simp only [Go.Lib.parseUint10, dig_nat (Nat.mod_lt u (by decide : 10 > 0))]
      rw [if_pos (by omega), if_neg (by omega), if_neg (by omega)]
      congr 1
      omega
theorem mag_dec {u : Nat} (hu : u < 18446744073709551616) : Go.Lib.parseMag (Go.Lib.decDigits u) = .ok u := by
  unfold Go.Lib.parseMag
  rw [if_neg (dec_digits u).1, parse_dec u hu]
def fit64 (v : Int) : Prop := -9223372036854775808 ≤ v ∧ v < 9223372036854775808
theorem atoi_itoa {v : Int} (h : fit64 v) : Go.Lib.atoiAll (Go.Lib.itoa v) = .ok v := by
  obtain ⟨h0, h1⟩ := h
  by_cases hn : v < 0
  · obtain ⟨u, hu⟩ : ∃ u : Nat, v = -(u : Int) := ⟨v.natAbs, by omega⟩
    subst hu
    rw [Go.Lib.itoa_neg u (by omega)]
    unfold Go.Lib.atoiAll
    simp only
    rw [if_pos (.inr rfl), mag_dec (by omega)]
    simp only
    rw [if_neg (by intro q; exact q.1 rfl), if_neg (by intro q; omega)]
    rfl
  · obtain ⟨u, hu⟩ : ∃ u : Nat, v = (u : Int) := ⟨v.toNat, by omega⟩
    subst hu
    rw [Go.Lib.itoa_nonneg u]
    have hd := dec_digits u
    have hm := mag_dec (u := u) (by omega)
    cases he : Go.Lib.decDigits u with
    | nil => exact absurd he hd.1
    | cons c r =>
      rw [he] at hd hm
      have hc := hd.2 c (by simp)
      unfold Go.Lib.atoiAll
      simp only
      rw [if_neg (by omega), hm]
      simp only
      rw [if_neg (by intro q; omega), if_neg (by intro q; omega), if_neg (by omega)]
theorem atoi_fit {l : List UInt8} {v : Int} (h : Go.Lib.atoiAll l = .ok v) : fit64 v := by
  unfold Go.Lib.atoiAll at h
  split at h
  · cases h
  · split at h
    · cases h
    · cases h
    · rename_i u _
      simp only at h
      split at h
      · cases h
      · split at h
        · cases h
        · rename_i h1 h2
          injection h with h
          subst h
          unfold fit64
          split
          · rename_i h3
            have : ¬ 9223372036854775808 < u := fun q => h2 ⟨h3, q⟩
            omega
          · rename_i h3
            have : ¬ 9223372036854775808 ≤ u := fun q => h1 ⟨h3, q⟩
            omega
/-- the number that a word is to the program; 0: it is none -/
def numP (w : List UInt8) : Int := match Go.Lib.atoiAll w with
  | .ok v => v
  | _ => 0
theorem numP_itoa {v : Int} (h : fit64 v) : numP (Go.Lib.itoa v) = v := by
  unfold numP
  rw [atoi_itoa h]
theorem numP_fit (w : List UInt8) : fit64 (numP w) := by
  unfold numP
  split
  · rename_i v h
    exact atoi_fit h
  · unfold fit64; omega
/-- the document's: as well as can be told -/
def numG : Nat → Nat → List UInt8 → Nat
  | _, n, [] => n
  | 0, n, _ :: _ => n
  | k + 1, n, d :: l => numG k ((n * 10 % 18446744073709551616 + (d.toNat + 208) % 256) % 18446744073709551616) l
def numR (w : List UInt8) : Int := match w with
  | [] => 0
  | c :: r => if c = 45 then IntKind.wrap .i64 (((18446744073709551616 - numG 19 0 r) % 18446744073709551616 : Nat) : Int) else IntKind.wrap .i64 ((numG 20 0 (c :: r) : Nat) : Int)
theorem numG_app (r : List UInt8) : ∀ (l : List UInt8) (k n : Nat), l.length ≤ k → numG k n (l ++ r) = numG (k - l.length) (numG k n l) r
  | [], k, n, _ => by
    rw [List.nil_append, List.length_nil, Nat.sub_zero]
    cases k <;> rfl
  | d :: l, 0, n, h => by simp at h
  | d :: l, k + 1, n, h => by
    rw [List.length_cons] at h ⊢
    rw [List.cons_append, numG, numG_app r l k _ (by omega), numG, Nat.add_sub_add_right]
theorem numG_dec (u : Nat) (hu : u < 18446744073709551616) (k : Nat) (hk : (Go.Lib.decDigits u).length ≤ k) : numG k 0 (Go.Lib.decDigits u) = u := by
  induction u using Nat.strongRecOn generalizing k with
  | ind u ih =>
    by_cases h : u < 10
    · rw [dec_small h] at hk ⊢
      obtain ⟨j, rfl⟩ : ∃ j, k = j + 1 := ⟨k - 1, by simp at hk; omega⟩
      rw [numG, dig_nat h]
      cases j <;> (simp only [numG]; omega)
    · rw [dec_big h] at hk ⊢
      rw [List.length_append, List.length_singleton] at hk
      rw [numG_app _ _ _ _ (by omega), ih (u / 10) (by omega) (by omega) k (by omega)]
      obtain ⟨j, hj⟩ : ∃ j, k - (Go.Lib.decDigits (u / 10)).length = j + 1 := ⟨k - (Go.Lib.decDigits (u / 10)).length - 1, by omega⟩
      rw [hj, numG, dig_nat (Nat.mod_lt u (by decide : 10 > 0))]
      cases j <;> (simp only [numG]; omega)
theorem dec_len_lt : ∀ (k u : Nat), u < 10 ^ (k + 1) → (Go.Lib.decDigits u).length ≤ k + 1
  | 0, u, h => by rw [dec_small (by simpa using h)]; simp
  | k + 1, u, h => by
    by_cases h1 : u < 10
    · rw [dec_small h1]; simp
    · have ih := dec_len_lt k (u / 10) (by rw [Nat.pow_succ] at h; omega)
      rw [dec_big h1, List.length_append, List.length_singleton]
      omega
theorem wrap_fit {v : Int} (h : fit64 v) : IntKind.wrap .i64 v = v := by
  obtain ⟨h0, h1⟩ := h
  simp [IntKind.wrap, IntKind.bits, IntKind.signed]
  split <;> omega
theorem wrap_is (z : Int) : fit64 (IntKind.wrap .i64 z) := by
  unfold fit64
  simp [IntKind.wrap, IntKind.bits, IntKind.signed]
  split <;> omega
theorem numR_itoa {v : Int} (h : fit64 v) : numR (Go.Lib.itoa v) = v := by
  have hf := wrap_fit h
  obtain ⟨h0, h1⟩ := h
  by_cases hn : v < 0
  · obtain ⟨u, hu⟩ : ∃ u : Nat, v = -(u : Int) := ⟨v.natAbs, by omega⟩
    subst hu
    rw [Go.Lib.itoa_neg u (by omega)]
    unfold numR
    simp only
    rw [if_pos True.intro, numG_dec u (by omega) 19 (dec_len_lt 18 u (by omega)), Nat.mod_eq_of_lt (by omega)]
    simp [IntKind.wrap, IntKind.bits, IntKind.signed]
    split <;> omega
  · obtain ⟨u, hu⟩ : ∃ u : Nat, v = (u : Int) := ⟨v.toNat, by omega⟩
    subst hu
    rw [Go.Lib.itoa_nonneg u]
    have hd := dec_digits u
    have hm := numG_dec u (by omega) 20 (dec_len_lt 19 u (by omega))
    cases he : Go.Lib.decDigits u with
    | nil => exact absurd he hd.1
    | cons c r =>
      rw [he] at hd hm
      have hc := hd.2 c (by simp)
      unfold numR
      simp only
      rw [if_neg (by rintro rfl; exact absurd hc.1 (by decide)), hm, hf]
theorem numR_fit (w : List UInt8) : fit64 (numR w) := by
  unfold numR
  split
  · unfold fit64; omega
  · split
    · exact wrap_is _
    · exact wrap_is _
theorem itoa_chars (v : Int) : Go.Lib.itoa v ≠ [] ∧ ∀ b ∈ Go.Lib.itoa v, b ≠ 32 ∧ b ≠ 108 := by
  unfold Go.Lib.itoa
  have h1 := dec_digits v.natAbs
  have h2 := dec_digits v.toNat
  have hne : ∀ b : UInt8, 48 ≤ b.toNat ∧ b.toNat ≤ 57 → b ≠ 32 ∧ b ≠ 108 := fun b h => ⟨by rintro rfl; exact absurd h.1 (by decide), by rintro rfl; exact absurd h.2 (by decide)⟩
  split
  · refine ⟨by simp, fun b hb => ?_⟩
    rcases List.mem_cons.1 hb with rfl | hb
    · exact ⟨by decide, by decide⟩
    · exact hne b (h1.2 b hb)
  · exact ⟨h2.1, fun b hb => hne b (h2.2 b hb)⟩
end Go.Eng
end

/- Answers as lines, and back, in plain terms. -/
section
namespace Go.Eng
open Go
set_option linter.unusedSectionVars false

/-- an answer -/
structure An where
  why : Int
  n : Int
  m : Int
  data : List UInt8
  list : List Int
def fitA (x : An) : Prop := fit64 x.why ∧ fit64 x.n ∧ fit64 x.m ∧ ∀ v ∈ x.list, fit64 v
def okA (x : An) : Bool := decide (0 ≤ x.why) && decide (x.why ≤ 22) && (decide (x.data = []) || decide (x.data.length = 64)) && decide (x.list.length ≤ 60)
def wWhy : List UInt8 := [119, 104, 121]
def wN : List UInt8 := [110]
def wM : List UInt8 := [109]
def wData : List UInt8 := [100, 97, 116, 97]
def wList : List UInt8 := [108, 105, 115, 116]
/-- the words of a line -/
def secN (n : Int) : List (List UInt8) := if n = 0 then [] else [wN, Go.Lib.itoa n]
def secM (m : Int) : List (List UInt8) := if m = 0 then [] else [wM, Go.Lib.itoa m]
def secD (d : List UInt8) : List (List UInt8) := if d = [] then [] else wData :: wordsB 64 d
def secL (l : List Int) : List (List UInt8) := if l = [] then [] else wList :: l.map Go.Lib.itoa
def lineW (x : An) : List (List UInt8) := wWhy :: Go.Lib.itoa x.why :: (secN x.n ++ (secM x.m ++ (secD x.data ++ secL x.list)))
def lineP (x : An) : Option (List UInt8) := if okA x then some (Go.Lib.join (lineW x) [32]) else none
def an0 : An := ⟨0, 0, 0, [], []⟩

/-! ### the program's -/
def endP (x : An) (dt : List (List UInt8)) : An := match progL (Go.Lib.join dt [32]) with
  | some s => { x with data := s }
  | none => x
def guessP : Nat → List (List UInt8) → An → List (List UInt8) → An
  | 0, _, x, dt => endP x dt
  | f + 1, l, x, dt => match l with
    | name :: v :: rest =>
      if name = wWhy then guessP f rest { x with why := numP v } dt
      else if name = wN then guessP f rest { x with n := numP v } dt
      else if name = wM then guessP f rest { x with m := numP v } dt
      else if name = wData then guessP f ((v :: rest).dropWhile (fun w => !decide (w = wList))) x (dt ++ (v :: rest).takeWhile (fun w => !decide (w = wList)))
      else if name = wList then endP { x with list := x.list ++ (v :: rest).map numP } dt
      else endP x dt
    | _ => endP x dt
def progA (s : List UInt8) : Option An :=
  let x := guessP (cutsL 32 s).length (cutsL 32 s) an0 []
  if lineP x = some s then some x else none

/-! ### the document's -/
def wordR (s : List UInt8) : List UInt8 × List UInt8 := ((cut1 32 s).1, (cut1 32 s).2.1)
def untilL (w : List UInt8) : List UInt8 → List UInt8 × List UInt8
  | [] => ([], [])
  | c :: r => if w.isPrefixOf (c :: r) then ([], (c :: r).drop w.length) else (c :: (untilL w r).1, (untilL w r).2)
def listR : Nat → List UInt8 → List Int → List UInt8 × List Int
  | 0, rest, acc => (rest, acc)
  | k + 1, rest, acc => if rest = [] then (rest, acc) else listR k (wordR rest).2 (acc ++ [numR (wordR rest).1])
def behind (r : List UInt8) : List UInt8 := if r = [] then [] else wList ++ 32 :: r
def sepL : List UInt8 := [32, 108, 105, 115, 116, 32]
def guessR : Nat → List UInt8 → An → An
  | 0, _, x => x
  | k + 1, rest, x => if rest = [] then x else
    let p := wordR rest
    if p.1 = wN then guessR k (wordR p.2).2 { x with n := numR (wordR p.2).1 }
    else if p.1 = wM then guessR k (wordR p.2).2 { x with m := numR (wordR p.2).1 }
    else if p.1 = wData then guessR k (behind (untilL sepL p.2).2) { x with data := (refL (untilL sepL p.2).1).getD [] }
    else if p.1 = wList then guessR k (listR 61 p.2 x.list).1 { x with list := (listR 61 p.2 x.list).2 }
    else x
def refG (s : List UInt8) : An := guessR 4 (wordR (wordR s).2).2 { an0 with why := numR (wordR (wordR s).2).1 }
def refA (s : List UInt8) : Option An := if lineP (refG s) = some s then some (refG s) else none

/-! ### words -/
theorem hex_ne {c : UInt8} (h : c.toNat < 256) : ∀ b ∈ hexB c, b ≠ 32 ∧ b ≠ 108 := by
  have ha : (List.range 16).all (fun k => decide (hx k ≠ 32) && decide (hx k ≠ 108)) = true := by decide
  have hb : ∀ k < 16, hx k ≠ 32 ∧ hx k ≠ 108 := fun k hk => by
    have := List.all_eq_true.1 ha k (List.mem_range.2 hk)
    simpa using this
  intro b hm
  unfold hexB at hm
  rcases List.mem_cons.1 hm with rfl | hm
  · exact hb _ (by omega)
  · rw [List.mem_singleton.1 hm]
    exact hb _ (by omega)
theorem wordB_chars (c : UInt8) (n : Nat) : wordB c n ≠ [] ∧ ∀ b ∈ wordB c n, b ≠ 32 ∧ b ≠ 108 := by
  unfold wordB
  refine ⟨by simp [hexB], fun b hb => ?_⟩
  rcases List.mem_append.1 hb with hb | hb
  · exact hex_ne (UInt8.toNat_lt c) b hb
  · split at hb
    · rcases List.mem_cons.1 hb with rfl | hb
      · exact ⟨by decide, by decide⟩
      · have := (dec_digits n).2 b hb
        exact ⟨by rintro rfl; exact absurd this.1 (by decide), by rintro rfl; exact absurd this.2 (by decide)⟩
    · cases hb
theorem wordsB_chars {l : List UInt8} {k : Nat} : ∀ w ∈ wordsB k l, w ≠ [] ∧ ∀ b ∈ w, b ≠ 32 ∧ b ≠ 108 := by
  intro w hw
  unfold wordsB at hw
  obtain ⟨p, _, rfl⟩ := List.mem_map.1 hw
  exact wordB_chars p.1 p.2
theorem not_list {w : List UInt8} (h : ∀ b ∈ w, b ≠ 32 ∧ b ≠ 108) : w ≠ wList := by
  rintro rfl
  exact absurd rfl (h 108 (by simp [wList])).2
/-- a word of a line -/
def isW (w : List UInt8) : Prop := w ≠ [] ∧ ∀ b ∈ w, b ≠ 32
theorem isW_itoa (v : Int) : isW (Go.Lib.itoa v) := ⟨(itoa_chars v).1, fun b hb => ((itoa_chars v).2 b hb).1⟩
theorem secs_isW (x : An) : ∀ w ∈ lineW x, isW w := by
  have cN : isW wN := ⟨by decide, by decide⟩
  have cM : isW wM := ⟨by decide, by decide⟩
  have cD : isW wData := ⟨by decide, by decide⟩
  have cL : isW wList := ⟨by decide, by decide⟩
  have cW : isW wWhy := ⟨by decide, by decide⟩
  intro w hw
  unfold lineW at hw
  rcases List.mem_cons.1 hw with rfl | hw
  · exact cW
  rcases List.mem_cons.1 hw with rfl | hw
  · exact isW_itoa _
  rcases List.mem_append.1 hw with hw | hw
  · unfold secN at hw
    split at hw
    · cases hw
    · rcases List.mem_cons.1 hw with rfl | hw
      · exact cN
      · rw [List.mem_singleton.1 hw]; exact isW_itoa _
  rcases List.mem_append.1 hw with hw | hw
  · unfold secM at hw
    split at hw
    · cases hw
    · rcases List.mem_cons.1 hw with rfl | hw
      · exact cM
      · rw [List.mem_singleton.1 hw]; exact isW_itoa _
  rcases List.mem_append.1 hw with hw | hw
  · unfold secD at hw
    split at hw
    · cases hw
    · rcases List.mem_cons.1 hw with rfl | hw
      · exact cD
      · have := wordsB_chars w hw
        exact ⟨this.1, fun b hb => (this.2 b hb).1⟩
  · unfold secL at hw
    split at hw
    · cases hw
    · rcases List.mem_cons.1 hw with rfl | hw
      · exact cL
      · obtain ⟨v, _, rfl⟩ := List.mem_map.1 hw
        exact isW_itoa v
theorem line_cuts (x : An) : cutsL 32 (Go.Lib.join (lineW x) [32]) = lineW x := by
  have h := secs_isW x
  unfold lineW at h ⊢
  exact cuts_join _ _ fun v hv b hb => (h v hv).2 b hb
theorem guess_nil (f : Nat) (x : An) (dt : List (List UInt8)) : guessP f [] x dt = endP x dt := by cases f <;> rfl
theorem drop_words {ws L : List (List UInt8)} (h : ∀ w ∈ ws, w ≠ wList) (hL : L = [] ∨ ∃ r, L = wList :: r) :
    (ws ++ L).dropWhile (fun w => !decide (w = wList)) = L ∧ (ws ++ L).takeWhile (fun w => !decide (w = wList)) = ws := by
  induction ws with
  | nil =>
    rcases hL with rfl | ⟨r, rfl⟩
    · exact ⟨rfl, rfl⟩
    · simp
  | cons w ws ih =>
    have h0 := h w (by simp)
    have ih := ih fun v hv => h v (by simp [hv])
    simp [h0, ih.1, ih.2]
theorem secL_form (l : List Int) : secL l = [] ∨ ∃ r, secL l = wList :: r := by
  unfold secL
  split
  · exact .inl rfl
  · exact .inr ⟨_, rfl⟩
theorem endP_nil (x : An) : endP x [] = x := by
  unfold endP
  have : progL (Go.Lib.join [] [32]) = none := by decide
  rw [this]
theorem guess_list (l : List Int) (hl : ∀ v ∈ l, fit64 v) (f : Nat) (hf : (secL l).length ≤ f) (x : An) (dt : List (List UInt8)) : guessP f (secL l) x dt = endP { x with list := x.list ++ l } dt := by
  unfold secL at hf ⊢
  cases l with
  | nil =>
    rw [if_pos rfl, guess_nil, List.append_nil]
  | cons v l =>
    rw [if_neg (by simp)] at hf ⊢
    simp only [List.length_cons, List.map_cons] at hf ⊢
    obtain ⟨g, rfl⟩ : ∃ g, f = g + 1 := ⟨f - 1, by omega⟩
    rw [guessP]
    simp only
    rw [if_neg (by decide), if_neg (by decide), if_neg (by decide), if_neg (by decide), if_pos True.intro, ← List.map_cons, List.map_map]
    have : (v :: l).map (numP ∘ Go.Lib.itoa) = v :: l := by
      conv => rhs; rw [← List.map_id (v :: l)]
      exact List.map_congr_left fun u hu => numP_itoa (hl u hu)
    rw [this]
theorem guess_data (d : List UInt8) (hd : d = [] ∨ d.length = 64) (l : List Int) (hl : ∀ v ∈ l, fit64 v) (f : Nat) (hf : (secD d ++ secL l).length ≤ f) (x : An) (hx : x.data = []) :
    guessP f (secD d ++ secL l) x [] = { x with data := d, list := x.list ++ l } := by
  unfold secD at hf ⊢
  by_cases h0 : d = []
  · rw [if_pos h0, List.nil_append] at hf ⊢
    rw [guess_list l hl f hf, endP_nil, h0, ← hx]
  · have h64 := hd.resolve_left h0
    rw [if_neg h0] at hf ⊢
    obtain ⟨w, ws, hw⟩ := words_ne h64
    have hc := wordsB_chars (l := d) (k := 64)
    simp only [List.length_append, List.length_cons, List.cons_append] at hf ⊢
    obtain ⟨g, rfl⟩ : ∃ g, f = g + 1 := ⟨f - 1, by omega⟩
    have hdw := drop_words (ws := wordsB 64 d) (L := secL l) (fun v hv => not_list (hc v hv).2) (secL_form l)
    have hsh : progL (Go.Lib.join (wordsB 64 d) [32]) = some d := by
      have := progL_short h64
      unfold shortB at this
      rw [if_pos h64] at this
      exact this
    rw [hw] at hf hdw hsh ⊢
    rw [List.cons_append] at hdw ⊢
    rw [guessP]
    simp only
    rw [if_neg (by decide), if_neg (by decide), if_neg (by decide), if_pos True.intro, hdw.1, hdw.2, List.nil_append, guess_list l hl g (by simp only [List.length_cons] at hf; omega)]
    unfold endP
    rw [hsh]
theorem guess_line {x : An} (hf : fitA x) (ho : okA x = true) (f : Nat) (hl : (lineW x).length ≤ f) : guessP f (lineW x) an0 [] = x := by
  obtain ⟨h1, h2, h3, h4⟩ := hf
  have hd : x.data = [] ∨ x.data.length = 64 := by
    unfold okA at ho
    simp only [Bool.and_eq_true, Bool.or_eq_true, decide_eq_true_eq] at ho
    exact ho.1.2
  have eM : ∀ (g : Nat) (y : An), y.data = [] → y.m = 0 → y.list = [] → (secM x.m ++ (secD x.data ++ secL x.list)).length ≤ g →
      guessP g (secM x.m ++ (secD x.data ++ secL x.list)) y [] = { y with m := x.m, data := x.data, list := x.list } := by
    intro g y hy hm hy2 hg
    unfold secM at hg ⊢
    by_cases h0 : x.m = 0
    · rw [if_pos h0, List.nil_append] at hg ⊢
      rw [guess_data _ hd _ h4 g hg y hy, hy2, h0, ← hm]
      rfl
    · rw [if_neg h0] at hg ⊢
      simp only [List.length_append, List.length_cons, List.cons_append, List.nil_append] at hg ⊢
      obtain ⟨k, rfl⟩ : ∃ k, g = k + 1 := ⟨g - 1, by omega⟩
      rw [guessP]
      simp only
      rw [if_neg (by decide), if_neg (by decide), if_pos True.intro, guess_data _ hd _ h4 k (by rw [List.length_append]; omega) { y with m := numP (Go.Lib.itoa x.m) } hy, numP_itoa h3]
      simp only
      rw [hy2]
      rfl
  have eN : ∀ (g : Nat) (y : An), y.data = [] → y.n = 0 → y.m = 0 → y.list = [] → (secN x.n ++ (secM x.m ++ (secD x.data ++ secL x.list))).length ≤ g →
      guessP g (secN x.n ++ (secM x.m ++ (secD x.data ++ secL x.list))) y [] = { y with n := x.n, m := x.m, data := x.data, list := x.list } := by
    intro g y hy hn hm hy2 hg
    unfold secN at hg ⊢
    by_cases h0 : x.n = 0
    · rw [if_pos h0, List.nil_append] at hg ⊢
      rw [eM g y hy hm hy2 hg, h0, ← hn]
    · rw [if_neg h0] at hg ⊢
      simp only [List.length_append, List.length_cons, List.cons_append, List.nil_append] at hg ⊢
      obtain ⟨k, rfl⟩ : ∃ k, g = k + 1 := ⟨g - 1, by omega⟩
      rw [guessP]
      simp only
      rw [if_neg (by decide), if_pos True.intro, eM k { y with n := numP (Go.Lib.itoa x.n) } hy hm hy2 (by simp only [List.length_append]; omega), numP_itoa h2]
  unfold lineW at hl ⊢
  simp only [List.length_cons] at hl
  obtain ⟨k, rfl⟩ : ∃ k, f = k + 1 := ⟨f - 1, by omega⟩
  rw [guessP]
  simp only
  rw [if_pos True.intro, eN k _ rfl rfl rfl rfl (by omega), numP_itoa h1]
theorem progA_line {x : An} (hf : fitA x) {s : List UInt8} (h : lineP x = some s) : progA s = some x := by
  have hl := h
  unfold lineP at h
  split at h
  · rename_i ho
    injection h with h
    unfold progA
    rw [← h, line_cuts, guess_line hf ho _ (Nat.le_refl _), h]
    simp only
    rw [if_pos hl]
  · cases h
end Go.Eng
end

/- Answers as lines: both sides read a line alike, in plain terms. -/
section
namespace Go.Eng
open Go
set_option linter.unusedSectionVars false

def J (ws : List (List UInt8)) : List UInt8 := Go.Lib.join ws [32]
theorem c1_none {b : UInt8} : ∀ {l : List UInt8}, (∀ x ∈ l, x ≠ b) → cut1 b l = (l, [], false)
  | [], _ => rfl
  | x :: l, h => by
    rw [cut1, if_neg (h x (by simp)), c1_none fun y hy => h y (by simp [hy])]
theorem c1_some {b : UInt8} : ∀ {l r : List UInt8}, (∀ x ∈ l, x ≠ b) → cut1 b (l ++ b :: r) = (l, r, true)
  | [], r, _ => by rw [List.nil_append, cut1, if_pos rfl]
  | x :: l, r, h => by
    rw [List.cons_append, cut1, if_neg (h x (by simp)), c1_some fun y hy => h y (by simp [hy])]
theorem J_cons (w v : List UInt8) (ws : List (List UInt8)) : J (w :: v :: ws) = w ++ 32 :: J (v :: ws) := by
  unfold J
  rw [Go.Lib.join_cons, Go.Lib.join_cons]
  rfl
theorem J_one (w : List UInt8) : J [w] = w := Go.Lib.join_one _ _
theorem J_ne {w : List UInt8} {ws : List (List UInt8)} (h : w ≠ []) : J (w :: ws) ≠ [] := by
  cases ws with
  | nil => rw [J_one]; exact h
  | cons v ws => rw [J_cons]; simp
theorem J_app (A : List (List UInt8)) (v : List UInt8) (B : List (List UInt8)) (hA : A ≠ []) : J (A ++ v :: B) = J A ++ 32 :: J (v :: B) := by
  induction A with
  | nil => exact absurd rfl hA
  | cons w A ih =>
    cases A with
    | nil => rw [List.cons_append, List.nil_append, J_cons, J_one]
    | cons u A =>
      rw [List.cons_append, List.cons_append, J_cons, J_cons, ← List.cons_append, ih (by simp), List.append_assoc]
      rfl
theorem J_mem {ws : List (List UInt8)} {b : UInt8} (hb : b ∈ J ws) : b = 32 ∨ ∃ w ∈ ws, b ∈ w := by
  induction ws with
  | nil => cases hb
  | cons w ws ih =>
    cases ws with
    | nil =>
      rw [J_one] at hb
      exact .inr ⟨w, by simp, hb⟩
    | cons v ws =>
      rw [J_cons] at hb
      rcases List.mem_append.1 hb with hb | hb
      · exact .inr ⟨w, by simp, hb⟩
      · rcases List.mem_cons.1 hb with rfl | hb
        · exact .inl rfl
        · rcases ih hb with h | ⟨u, hu, h⟩
          · exact .inl h
          · exact .inr ⟨u, by simp [hu], h⟩
theorem wordR_J {w : List UInt8} {ws : List (List UInt8)} (h : ∀ b ∈ w, b ≠ 32) : wordR (J (w :: ws)) = (w, J ws) := by
  unfold wordR
  cases ws with
  | nil =>
    rw [J_one, c1_none h]
    rfl
  | cons v ws => rw [J_cons, c1_some h]
theorem listR_J : ∀ (l : List Int) (k : Nat) (acc : List Int), l.length ≤ k → (∀ v ∈ l, fit64 v) → listR k (J (l.map Go.Lib.itoa)) acc = ([], acc ++ l)
  | [], k, acc, _, _ => by
    rw [List.append_nil]
    cases k <;> rfl
  | v :: l, 0, acc, h, _ => by simp at h
  | v :: l, k + 1, acc, h, hl => by
    rw [List.length_cons] at h
    rw [List.map_cons, listR, if_neg (J_ne (itoa_chars v).1), wordR_J fun b hb => ((itoa_chars v).2 b hb).1, numR_itoa (hl v (by simp))]
    simp only
    rw [listR_J l k _ (by omega) fun u hu => hl u (by simp [hu]), List.append_assoc]
    rfl
theorem until_none : ∀ (s : List UInt8), (∀ b ∈ s, b ≠ 108) → untilL sepL s = (s, [])
  | [], _ => rfl
  | c :: r, h => by
    have hp : sepL.isPrefixOf (c :: r) = false := by
      cases r with
      | nil => simp [sepL, List.isPrefixOf]
      | cons d r =>
        have : d ≠ 108 := h d (by simp)
        simp [sepL, List.isPrefixOf, Ne.symm this]
    rw [untilL, hp, until_none r fun b hb => h b (by simp [hb])]
    rfl
theorem until_some (r : List UInt8) : ∀ (s : List UInt8), (∀ b ∈ s, b ≠ 108) → untilL sepL (s ++ (sepL ++ r)) = (s, r)
  | [], _ => by
    have hp : sepL.isPrefixOf (sepL ++ r) = true := by simp [sepL, List.isPrefixOf]
    rw [List.nil_append]
    show untilL sepL (32 :: (108 :: 105 :: 115 :: 116 :: 32 :: r)) = _
    rw [untilL, show sepL.isPrefixOf (32 :: (108 :: 105 :: 115 :: 116 :: 32 :: r)) = true from hp]
    rfl
  | c :: s, h => by
    have hp : sepL.isPrefixOf (c :: (s ++ (sepL ++ r))) = false := by
      cases s with
      | nil => simp [sepL, List.isPrefixOf]
      | cons d s =>
        have : d ≠ 108 := h d (by simp)
        simp [sepL, List.isPrefixOf, Ne.symm this]
    rw [List.cons_append, untilL, hp, until_some r s fun b hb => h b (by simp [hb])]
    rfl
theorem short_chars {d : List UInt8} (h : d.length = 64) : (∀ b ∈ shortB d, b ≠ 108) ∧ shortB d = J (wordsB 64 d) := by
  have e : shortB d = J (wordsB 64 d) := by
    unfold shortB
    rw [if_pos h]
    rfl
  refine ⟨fun b hb => ?_, e⟩
  rw [e] at hb
  rcases J_mem hb with rfl | ⟨w, hw, hb⟩
  · decide
  · exact ((wordsB_chars w hw).2 b hb).2
theorem guessR_nil (k : Nat) (x : An) : guessR k [] x = x := by
  cases k with
  | zero => rfl
  | succ k => rw [guessR, if_pos rfl]
theorem gR_list (l : List Int) (hl : ∀ v ∈ l, fit64 v) (h60 : l.length ≤ 60) (k : Nat) (x : An) : guessR (k + 1) (J (secL l)) x = { x with list := x.list ++ l } := by
  unfold secL
  cases l with
  | nil =>
    rw [if_pos rfl, List.append_nil]
    exact guessR_nil _ _
  | cons v l =>
    rw [if_neg (by simp), guessR, if_neg (J_ne (by decide)), wordR_J (w := wList) (by decide)]
    simp only
    rw [if_neg (by decide), if_neg (by decide), if_neg (by decide), if_pos True.intro, listR_J _ 61 _ (by omega) hl]
    simp only
    rw [guessR_nil]
theorem gR_data (d : List UInt8) (hd : d = [] ∨ d.length = 64) (l : List Int) (hl : ∀ v ∈ l, fit64 v) (h60 : l.length ≤ 60) (k : Nat) (x : An) (hx : x.data = []) (hx2 : x.list = []) :
    guessR (k + 2) (J (secD d ++ secL l)) x = { x with data := d, list := l } := by
  unfold secD
  by_cases h0 : d = []
  · rw [if_pos h0, List.nil_append, gR_list l hl h60 (k + 1), hx2, h0, ← hx]
    rfl
  · have h64 := hd.resolve_left h0
    rw [if_neg h0]
    obtain ⟨w, ws, hw⟩ := words_ne h64
    obtain ⟨hc, hs⟩ := short_chars h64
    rw [List.cons_append, guessR, if_neg (J_ne (by decide)), wordR_J (w := wData) (by decide)]
    simp only
    rw [if_neg (by decide), if_neg (by decide), if_pos True.intro]
    have hu : untilL sepL (J (wordsB 64 d ++ secL l)) = (shortB d, J (l.map Go.Lib.itoa)) := by
      unfold secL
      cases l with
      | nil =>
        rw [if_pos rfl, List.append_nil, ← hs, until_none _ hc]
        rfl
      | cons v l =>
        rw [if_neg (by simp), J_app _ _ _ (by rw [hw]; simp), ← hs, List.map_cons, J_cons]
        exact until_some _ _ hc
    have hb : behind (J (l.map Go.Lib.itoa)) = J (secL l) := by
      unfold behind secL
      cases l with
      | nil => rfl
      | cons v l =>
        rw [List.map_cons, if_neg (J_ne (itoa_chars v).1), if_neg (by simp), J_cons]
    rw [hu]
    simp only
    rw [hb, refL_short h64, gR_list l hl h60 k]
    simp only [Option.getD_some]
    rw [hx2]
    rfl
theorem gR_m (x : An) (h3 : fit64 x.m) (hd : x.data = [] ∨ x.data.length = 64) (hl : ∀ v ∈ x.list, fit64 v) (h60 : x.list.length ≤ 60) (k : Nat) (y : An) (hy : y.data = []) (hm : y.m = 0) (hy2 : y.list = []) :
    guessR (k + 3) (J (secM x.m ++ (secD x.data ++ secL x.list))) y = { y with m := x.m, data := x.data, list := x.list } := by
  unfold secM
  by_cases h0 : x.m = 0
  · rw [if_pos h0, List.nil_append, gR_data _ hd _ hl h60 (k + 1) y hy hy2, h0, ← hm]
  · rw [if_neg h0, List.cons_append, List.cons_append, List.nil_append, guessR, if_neg (J_ne (by decide)), wordR_J (w := wM) (by decide)]
    simp only
    rw [if_neg (by decide), if_pos True.intro, wordR_J fun b hb => ((itoa_chars x.m).2 b hb).1]
    simp only
    rw [gR_data _ hd _ hl h60 k { y with m := numR (Go.Lib.itoa x.m) } hy hy2, numR_itoa h3]
theorem gR_n (x : An) (h2 : fit64 x.n) (h3 : fit64 x.m) (hd : x.data = [] ∨ x.data.length = 64) (hl : ∀ v ∈ x.list, fit64 v) (h60 : x.list.length ≤ 60) (k : Nat) (y : An) (hy : y.data = []) (hn : y.n = 0) (hm : y.m = 0) (hy2 : y.list = []) :
    guessR (k + 4) (J (secN x.n ++ (secM x.m ++ (secD x.data ++ secL x.list)))) y = { y with n := x.n, m := x.m, data := x.data, list := x.list } := by
  unfold secN
  by_cases h0 : x.n = 0
  · rw [if_pos h0, List.nil_append, gR_m x h3 hd hl h60 (k + 1) y hy hm hy2, h0, ← hn]
  · rw [if_neg h0, List.cons_append, List.cons_append, List.nil_append, guessR, if_neg (J_ne (by decide)), wordR_J (w := wN) (by decide)]
    simp only
    rw [if_pos True.intro, wordR_J fun b hb => ((itoa_chars x.n).2 b hb).1]
    simp only
    rw [gR_m x h3 hd hl h60 k { y with n := numR (Go.Lib.itoa x.n) } hy hm hy2, numR_itoa h2]
theorem okA_parts {x : An} (ho : okA x = true) : (x.data = [] ∨ x.data.length = 64) ∧ x.list.length ≤ 60 := by
  unfold okA at ho
  simp only [Bool.and_eq_true, Bool.or_eq_true, decide_eq_true_eq] at ho
  exact ⟨ho.1.2, ho.2⟩
theorem refG_line {x : An} (hf : fitA x) (ho : okA x = true) : refG (Go.Lib.join (lineW x) [32]) = x := by
  obtain ⟨h1, h2, h3, h4⟩ := hf
  obtain ⟨hd, h60⟩ := okA_parts ho
  have e : Go.Lib.join (lineW x) [32] = J (wWhy :: Go.Lib.itoa x.why :: (secN x.n ++ (secM x.m ++ (secD x.data ++ secL x.list)))) := rfl
  unfold refG
  rw [e, wordR_J (w := wWhy) (by decide)]
  simp only
  rw [wordR_J fun b hb => ((itoa_chars x.why).2 b hb).1]
  simp only
  rw [gR_n x h2 h3 hd h4 h60 0 { an0 with why := numR (Go.Lib.itoa x.why) } rfl rfl rfl rfl, numR_itoa h1]
theorem endP_fit {x : An} (h : fitA x) (dt : List (List UInt8)) : fitA (endP x dt) := by
  unfold endP
  split
  · exact h
  · exact h
theorem guessP_fit : ∀ (f : Nat) (l : List (List UInt8)) (x : An) (dt : List (List UInt8)), fitA x → fitA (guessP f l x dt)
  | 0, _, x, dt, h => endP_fit h dt
  | f + 1, [], x, dt, h => endP_fit h dt
  | f + 1, [_], x, dt, h => endP_fit h dt
  | f + 1, name :: w :: rest, x, dt, h => by
    rw [guessP]
    split
    · exact guessP_fit f _ _ _ ⟨numP_fit _, h.2.1, h.2.2.1, h.2.2.2⟩
    · split
      · exact guessP_fit f _ _ _ ⟨h.1, numP_fit _, h.2.2.1, h.2.2.2⟩
      · split
        · exact guessP_fit f _ _ _ ⟨h.1, h.2.1, numP_fit _, h.2.2.2⟩
        · split
          · exact guessP_fit f _ _ _ h
          · split
            · refine endP_fit (x := { x with list := x.list ++ (w :: rest).map numP }) ⟨h.1, h.2.1, h.2.2.1, fun v hv => ?_⟩ dt
              rcases List.mem_append.1 hv with hv | hv
              · exact h.2.2.2 v hv
              · obtain ⟨w, _, rfl⟩ := List.mem_map.1 hv
                exact numP_fit w
            · exact endP_fit h dt
theorem listR_fit : ∀ (k : Nat) (rest : List UInt8) (acc : List Int), (∀ v ∈ acc, fit64 v) → ∀ v ∈ (listR k rest acc).2, fit64 v
  | 0, _, _, h => h
  | k + 1, rest, acc, h => by
    rw [listR]
    split
    · exact h
    · refine listR_fit k _ _ fun v hv => ?_
      rcases List.mem_append.1 hv with hv | hv
      · exact h v hv
      · rw [List.mem_singleton.1 hv]
        exact numR_fit _
theorem guessR_fit : ∀ (k : Nat) (rest : List UInt8) (x : An), fitA x → fitA (guessR k rest x)
  | 0, _, _, h => h
  | k + 1, rest, x, h => by
    rw [guessR]
    split
    · exact h
    · simp only
      split
      · exact guessR_fit k _ _ ⟨h.1, numR_fit _, h.2.2.1, h.2.2.2⟩
      · split
        · exact guessR_fit k _ _ ⟨h.1, h.2.1, numR_fit _, h.2.2.2⟩
        · split
          · exact guessR_fit k _ _ h
          · split
            · exact guessR_fit k _ _ ⟨h.1, h.2.1, h.2.2.1, listR_fit _ _ _ h.2.2.2⟩
            · exact h
theorem an0_fit : fitA an0 := by
  refine ⟨?_, ?_, ?_, fun v hv => by cases hv⟩ <;> (unfold fit64 an0; simp only; omega)
theorem progA_fit {s : List UInt8} {x : An} (h : progA s = some x) : fitA x ∧ lineP x = some s := by
  unfold progA at h
  simp only at h
  split at h
  · rename_i h1
    injection h with h
    subst h
    exact ⟨guessP_fit _ _ _ _ an0_fit, h1⟩
  · cases h
theorem refA_line {x : An} (hf : fitA x) {s : List UInt8} (h : lineP x = some s) : refA s = some x := by
  have hl := h
  unfold lineP at h
  split at h
  · rename_i ho
    injection h with h
    unfold refA
    rw [← h, refG_line hf ho, h, if_pos hl]
  · cases h
theorem show_eq (s : List UInt8) : progA s = refA s := by
  cases hp : progA s with
  | some x =>
    obtain ⟨h1, h2⟩ := progA_fit hp
    exact (refA_line h1 h2).symm
  | none =>
    cases hr : refA s with
    | none => rfl
    | some x =>
      unfold refA at hr
      split at hr
      · rename_i h1
        injection hr with hr
        subst hr
        have hf : fitA (refG s) := guessR_fit _ _ _ ⟨numR_fit _, an0_fit.2⟩
        rw [progA_line hf h1] at hp
        cases hp
      · cases hr
end Go.Eng
end
