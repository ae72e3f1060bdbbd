/- More library functions by the shelf's contracts: strings.Split and strings.Cut at one byte, strconv.Atoi at every text. -/
import Derived.Test.YtkbbgehnooncoaaGreatDoorWp24
import Derived.Lib.Split
import Derived.Lib.SplitLaws
import Derived.Lib.IndexBytes
import Derived.Lib.AtoiAll
import Derived.WalkSmall
import Derived.Lib.AtoiErrMem
section
namespace Go.Eng
open Go

/-- l cut at each b -/
def cutsL (b : UInt8) : List UInt8 → List (List UInt8)
  | [] => [[]]
  | c :: l => if c = b then [] :: cutsL b l else match cutsL b l with
    | [] => [[c]]
    | h :: t => (c :: h) :: t

/-- l cut at the first b -/
def cut1 (b : UInt8) : List UInt8 → List UInt8 × List UInt8 × Bool
  | [] => ([], [], false)
  | c :: l => if c = b then ([], l, true) else (c :: (cut1 b l).1, (cut1 b l).2.1, (cut1 b l).2.2)

theorem index1_cons (b c : UInt8) (l : List UInt8) : Go.Lib.index (c :: l) [b] = if c = b then 0 else if Go.Lib.index l [b] = -1 then -1 else Go.Lib.index l [b] + 1 := by
  by_cases h : c = b
  · subst h; simp [Go.Lib.index, List.isPrefixOf]
  · have : ¬ b = c := fun e => h e.symm
    simp [Go.Lib.index, List.isPrefixOf, h, this]

theorem split1 (b : UInt8) : ∀ l : List UInt8, Go.Lib.splitK [b] 0 (Go.Lib.count l [b]) l = cutsL b l
  | [] => by rw [Go.Lib.count_one]; rfl
  | c :: l => by
    have ih := split1 b l
    rw [Go.Lib.count_one] at ih ⊢
    by_cases h : c = b
    · subst h
      simp only [List.count_cons_self, Go.Lib.splitK, index1_cons, if_true, cutsL]
      simpa using ih
    · rw [List.count_cons_of_ne (by simpa using h)]
      simp only [cutsL, if_neg h, ← ih]
      cases hk : l.count b with
      | zero => rfl
      | succ k =>
        have hi : ¬ Go.Lib.index l [b] = -1 := fun e => by
          have := (Go.Lib.count_miss (sub := [b]) e)
          rw [Go.Lib.count_one] at this
          omega
        have hge := Go.Lib.index_ge l [b]
        have e2 : ¬ Go.Lib.index (c :: l) [b] = -1 := by
          rw [index1_cons, if_neg h, if_neg hi]
          omega
        have e3 : (Go.Lib.index (c :: l) [b]).toNat = (Go.Lib.index l [b]).toNat + 1 := by
          rw [index1_cons, if_neg h, if_neg hi]
          omega
        simp only [Go.Lib.splitK, beq_iff_eq, e2, hi, if_false, e3]
        simp [Nat.add_right_comm]

theorem cut1_eq (b : UInt8) : ∀ l : List UInt8, Go.Lib.cut l [b] = cut1 b l
  | [] => rfl
  | c :: l => by
    have ih := cut1_eq b l
    have hge := Go.Lib.index_ge l [b]
    unfold cut1
    by_cases h : c = b
    · subst h
      simp [Go.Lib.cut, index1_cons]
    · rw [if_neg h, ← ih]
      by_cases hi : Go.Lib.index l [b] = -1
      · have e : Go.Lib.index (c :: l) [b] = -1 := by rw [index1_cons, if_neg h, if_pos hi]
        simp [Go.Lib.cut, e, hi]
      · have e : Go.Lib.index (c :: l) [b] = Go.Lib.index l [b] + 1 := by rw [index1_cons, if_neg h, if_neg hi]
        have h0 : 0 ≤ Go.Lib.index l [b] := by omega
        have h1 : 0 ≤ Go.Lib.index l [b] + 1 := by omega
        have h2 : (Go.Lib.index l [b] + 1).toNat = (Go.Lib.index l [b]).toNat + 1 := by omega
        simp [Go.Lib.cut, e, h0, h1, h2, Nat.add_right_comm]

variable [Inhabited Pkg]
set_option linter.unusedSectionVars false

/-- a list of texts in a new block -/
theorem COk.belowL {P : Program} {f : FuncId} {S : Spec} (hf : Enters P f) {t : TypeId}
    (h : ∀ (c : Cx) (as : List AV) (G : List Ent) (vs : Array Value) (r : AV) (G' : List Ent), S as G = some (r, G') → MemOk c (gMem G 0) → All2 (fun a v => VL c a v ∧ pclean1 a = true) as vs.toList →
      G' = G ∧ ∃ xs : List ByteArray, xs.length ≤ maxLen ∧ r = .dat (.list .full 1 (xs.map fun x => [.str x])) ∧ Calls P f vs c.w fun e w' => e = .returned (.slice (some ⟨c.w.heap.size, 0, none⟩) xs.length xs.length) ∧ w' = c.w.alloc (.cells (xs.map Value.string).toArray t)) (hlt : f < yB := by decide) : COk P f S := by
  intro c as G vs r G' hs he hv
  obtain ⟨rfl, xs, hmx, rfl, hc⟩ := h c as G vs r G' hs he.mem hv
  refine .func hlt ⟨hf, hc.mono fun e w' hb => ?_⟩
  obtain ⟨rfl, rfl⟩ := hb
  have x1 := newO_ext (o := .cells (xs.map Value.string).toArray t) (g := none) he.mem.wf (fun k hk => by cases hk)
  have wf1 := newO_wf (o := .cells (xs.map Value.string).toArray t) (g := none) he.mem.wf
  have s1 := newO_same (o := .cells (xs.map Value.string).toArray t) (g := none) he.mem.wf
  obtain ⟨c1, hc1⟩ : ∃ c1, c1 = c.newO (.cells (xs.map Value.string).toArray t) none := ⟨_, rfl⟩
  rw [← hc1] at x1 wf1 s1
  have hw1 : c1.w = c.w.alloc (.cells (xs.map Value.string).toArray t) := by rw [hc1]; rfl
  have hlv1 : c1.lv = c.lv := by rw [hc1]; rfl
  have hown1 : c1.own = c.own := by rw [hc1]; rfl
  have hbg1 : c1.bg = c.bg := by rw [hc1]; rfl
  have hbl1 : c1.bl = c.bl := by rw [hc1]; rfl
  have hep1 : c1.ep = c.ep := by rw [hc1]; rfl
  have hsz : c1.w.heap.size = c.w.heap.size + 1 := by rw [hw1]; simp
  obtain ⟨c2, hc2⟩ : ∃ c2 : Cx, c2 = { c1 with lv := fun b => if b = c.w.heap.size then xs.length else c.lv b } := ⟨_, rfl⟩
  have hw2 : c2.w = c1.w := by rw [hc2]
  have hlv2 : ∀ b, b ≠ c.w.heap.size → c2.lv b = c.lv b := fun b hb => by rw [hc2]; simp [hb]
  have hlvn : c2.lv c.w.heap.size = xs.length := by rw [hc2]; simp
  have hst : Stay c1.w c1.lv c2.w c2.lv := by
    refine ⟨fun b o _ => by rw [hw2], fun b => ?_⟩
    rw [hlv1]
    by_cases hb : b = c.w.heap.size
    · rw [hb, he.mem.wf.lv _ (Nat.le_refl _)]; exact Nat.zero_le _
    · rw [hlv2 b hb]; exact Nat.le_refl _
  have x2 : Ext c c2 := by
    refine ⟨by rw [hw2]; exact x1.os, by rw [hw2]; exact x1.tape, by rw [hw2]; exact x1.output, by rw [hw2]; exact x1.size, x1.stay.trans hst, fun b hb hn => ?_, fun b s hs => by rw [hw2]; exact x1.sh b s hs,
      fun i b hb => by rw [hc2]; exact x1.bl i b hb, fun g b hb => by rw [hc2]; exact x1.bg g b hb, fun i b hb => by rw [hc2]; exact x1.rl i b hb, by rw [hc2]; exact x1.ep, fun e g b j v hg hv => ?_⟩
    · obtain ⟨q1, q2, q3⟩ := x1.fo b hb hn
      refine ⟨by rw [hw2]; exact q1, by rw [hc2]; exact q2, hlv2 b (by omega)⟩
    · rw [hw2]
      exact x1.gc hep1 g b j v hg hv
  have wf2 : WF c2 := by
    refine ⟨fun b hb => ?_, fun b hb => ?_, wf1.pk.stay hst (fun b s hs => by rw [hw2]; exact hs)⟩
    · rw [hw2, hsz] at hb
      rw [hlv2 b (by omega)]; exact he.mem.wf.lv b (by omega)
    · rw [hw2] at hb
      rw [hc2]; exact wf1.own b hb
  have s2 : ∀ who, Same c c2 who := fun who b hb => by
    have hlt := MemOk.lt_own he.mem.wf hb
    obtain ⟨q1, q2, q3⟩ := s1 who b hb
    exact ⟨by rw [hw2]; exact q1, by rw [hc2]; exact q2, hlv2 b (by omega)⟩
  refine ⟨c2, by rw [hw2, hw1], x2, ⟨wf2, rfl, fun i hi => by rw [hc2]; show c1.bl i = none; rw [hbl1]; exact he.mem.ln i (by simp [gMem]), fun i e hi => by simp [gMem] at hi, fun g hg => by rw [hc2]; show c1.bg g = none; rw [hbg1]; exact he.mem.gn g hg, fun g e hg => (he.mem.g g e hg).frame x2 (s2 _) (fun _ => s2 _)⟩, ?_⟩
  refine ⟨.dat ?_, rfl⟩
  have hcell : ∀ (k : Nat) x, xs[k]? = some x → c2.w.cell? ⟨c.w.heap.size, k, none⟩ = some (.string x) := by
    intro k x hx
    have : c2.w.heap[c.w.heap.size]? = some (.cells (xs.map Value.string).toArray t) := by rw [hw2, hw1]; exact World.alloc_heap_new c.w _
    simp [World.cell?, this, hx]
  have := RD.list (w := c2.w) (lv := c2.lv) (k := .full) (sz := 1) (xs := xs.map fun x => [D.str x]) (b := c.w.heap.size) (o := 0) (cap := xs.length) (fun k _ => match xs[k]? with | some x => .string x | none => Go.undef)
    (fun x hx => by obtain ⟨y, _, rfl⟩ := List.mem_map.1 hx; rfl) (by simp) hmx (fun _ => by rw [hlvn]; simp) (fun k x j d hx hd => ?_) (fun k x j d hx hd => ?_) (by intro h; cases h) (fun _ => by simp)
  · simpa using this
  · rw [List.getElem?_map] at hx
    cases hk : xs[k]? with
    | none => rw [hk] at hx; cases hx
    | some y =>
      rw [hk] at hx
      simp only [Option.map_some, Option.some.injEq] at hx
      subst hx
      match j, hd with
      | 0, hd => simpa using hcell k y hk
      | j + 1, hd => simp at hd
  · rw [List.getElem?_map] at hx
    cases hk : xs[k]? with
    | none => rw [hk] at hx; cases hx
    | some y =>
      rw [hk] at hx
      simp only [Option.map_some, Option.some.injEq] at hx
      subst hx
      match j, hd with
      | 0, hd =>
        simp at hd
        subst hd
        exact .str _
      | j + 1, hd => simp at hd

/-- so too where what comes back is told of in part -/
theorem COk.belowW {P : Program} {f : FuncId} {S : Spec} (hf : Enters P f)
    (h : ∀ (c : Cx) (as : List AV) (G : List Ent) (vs : Array Value) (r : AV) (G' : List Ent), S as G = some (r, G') → MemOk c (gMem G 0) → All2 (fun a v => VL c a v ∧ pclean1 a = true) as vs.toList →
      G' = G ∧ rclean r = true ∧ (∀ x sz xs, r ≠ .own x sz xs) ∧ Calls P f vs c.w fun e w' => ∃ v, e = .returned v ∧ (∀ c', VL c' r v) ∧ RowKit.Below c.w.heap.size c.w w') (hlt : f < yB := by decide) : COk P f S := by
  intro c as G vs r G' hs he hv
  obtain ⟨rfl, hrc, hno, hc⟩ := h c as G vs r G' hs he.mem hv
  refine .func hlt ⟨hf, hc.mono fun e w' hb => ?_⟩
  obtain ⟨v, rfl, hvl, hbe⟩ := hb
  have hx := Cx.at_ext he.mem.wf hbe
  have hsame : ∀ who, Same c (c.at w') who := fun who b hb => ⟨hbe.block b (MemOk.lt_own he.mem.wf hb), hb, rfl⟩
  refine ⟨c.at w', rfl, hx, ⟨⟨fun b hb => he.mem.wf.lv b (Nat.le_trans hbe.size hb), fun b hb => he.mem.wf.own b (Nat.le_trans hbe.size hb), he.mem.wf.pk.stay hx.stay hx.sh⟩, rfl, fun i hi => he.mem.ln i hi, fun i e hi => by simp [gMem] at hi, fun g hg => he.mem.gn g hg, fun g e hg => (he.mem.g g e hg).frame hx (hsame _) (fun _ => hsame _)⟩, ?_⟩
  unfold RL
  cases r with
  | own x sz xs => exact absurd rfl (hno x sz xs)
  | _ => exact ⟨hvl _, hrc⟩

/-- strings.Split at a text of one byte -/
noncomputable def sSplit1 : Spec := fun xs G => match xs with
  | [.dat (.str s), .dat (.str sep)] => match sep.data.toList with
    | [b] => if s.size < 4294967281 then some (.dat (.list .full 1 ((cutsL b s.data.toList).map fun l => [.str ⟨l.toArray⟩])), G) else none
    | _ => none
  | _ => none
theorem sSplit1_ok {P : Program} {f : FuncId} (hf : Enters P f) {t : TypeId} {g : Nat} (hp : pkgPv g = some fun v => ∃ m, v = .int .i64 m)
    (h : ∀ (s sep : ByteArray) (m : Int) (w : World), s.size < 4294967281 → w.cell? ⟨g, 0, none⟩ = some (.int .i64 m) → 1 ≤ sep.size → Calls P f #[.string s, .string sep] w fun e w' =>
      e = .returned (.slice (some ⟨w.heap.size, 0, none⟩) (Go.Lib.countB s sep + 1) (Go.Lib.countB s sep + 1)) ∧ w' = w.alloc (.cells ((Go.Lib.splitB sep 0 (Go.Lib.countB s sep) s).map Value.string).toArray t)) (hlt : f < yB := by decide) : COk P f sSplit1 := by
  refine COk.belowL hf (t := t) (fun c xs G vs r G' hs hm hv => ?_) hlt
  unfold sSplit1 at hs
  split at hs
  · rename_i s sep
    split at hs
    · rename_i b hb
      split at hs
      · rename_i hc
        simp only [Option.some.injEq, Prod.mk.injEq] at hs
        obtain ⟨rfl, rfl⟩ := hs
        obtain ⟨v, u, rfl, h0, h1⟩ := args_two hv
        rw [h0.str_inv, h1.str_inv]
        obtain ⟨_, _, hcell, m, rfl⟩ := hm.wf.pk.pv g _ hp
        have h1 : 1 ≤ sep.size := by rw [one_byte hb]; exact Nat.le_refl 1
        have hall := Go.Lib.splitB_all sep h1 0 _ s rfl
        have e : (Go.Lib.splitB sep 0 (Go.Lib.countB s sep) s) = (cutsL b s.data.toList).map fun l => ⟨l.toArray⟩ := by
          have := Go.Lib.splitB_data sep 0 (Go.Lib.countB s sep) s
          rw [show Go.Lib.countB s sep = Go.Lib.count s.data.toList sep.data.toList from rfl, hb, split1] at this
          rw [← this, List.map_map, show Go.Lib.count s.data.toList [b] = Go.Lib.countB s sep by rw [show Go.Lib.countB s sep = Go.Lib.count s.data.toList sep.data.toList from rfl, hb]]
          refine (List.map_id' _).symm.trans (List.map_congr_left fun x _ => ?_)
          obtain ⟨⟨x⟩⟩ := x
          rfl
        have hle := Go.Lib.countB_le sep h1 s.size s (Nat.le_refl _)
        refine ⟨rfl, Go.Lib.splitB sep 0 (Go.Lib.countB s sep) s, by rw [hall]; unfold maxLen; omega, by rw [e, List.map_map]; rfl, ?_⟩
        rw [hall]
        exact h s sep m c.w hc hcell h1
      · cases hs
    · cases hs
  · cases hs

theorem tup3 {c' : Cx} {a b d : AV} {va vb vd : Value} (h1 : VL c' a va) (h2 : VL c' b vb) (h3 : VL c' d vd) : VL c' (.tup [a, b, d]) (.tuple #[va, vb, vd]) :=
  .tup rfl fun j a ha v hv => by
    match j, ha, hv with
    | 0, ha, hv => simp at ha hv; subst ha hv; exact h1
    | 1, ha, hv => simp at ha hv; subst ha hv; exact h2
    | 2, ha, hv => simp at ha hv; subst ha hv; exact h3
    | j + 3, ha, _ => simp at ha
theorem tup2 {c' : Cx} {a b : AV} {va vb : Value} (h1 : VL c' a va) (h2 : VL c' b vb) : VL c' (.tup [a, b]) (.tuple #[va, vb]) :=
  .tup rfl fun j a ha v hv => by
    match j, ha, hv with
    | 0, ha, hv => simp at ha hv; subst ha hv; exact h1
    | 1, ha, hv => simp at ha hv; subst ha hv; exact h2
    | j + 2, ha, _ => simp at ha

/-- strings.Cut at a text of one byte -/
noncomputable def sCut1 : Spec := fun xs G => match xs with
  | [.dat (.str s), .dat (.str sep)] => match sep.data.toList with
    | [b] => if s.size < 4294967281 then some (.tup [.dat (.str ⟨(cut1 b s.data.toList).1.toArray⟩), .dat (.str ⟨(cut1 b s.data.toList).2.1.toArray⟩), .dat (.bool (cut1 b s.data.toList).2.2)], G) else none
    | _ => none
  | _ => none
theorem sCut1_ok {P : Program} {f : FuncId} (hf : Enters P f) {g : Nat} (hp : pkgPv g = some fun v => ∃ m, v = .int .i64 m)
    (h : ∀ (s sep : ByteArray) (m : Int) (w : World), s.size < 4294967281 → w.cell? ⟨g, 0, none⟩ = some (.int .i64 m) → Calls P f #[.string s, .string sep] w fun e w' =>
      e = .returned (.tuple #[.string ⟨(Go.Lib.cut s.data.toList sep.data.toList).1.toArray⟩, .string ⟨(Go.Lib.cut s.data.toList sep.data.toList).2.1.toArray⟩, .bool (Go.Lib.cut s.data.toList sep.data.toList).2.2]) ∧ ∃ n, w' = w.drewN n) (hlt : f < yB := by decide) : COk P f sCut1 := by
  refine COk.belowV hf (fun c xs G vs r G' hs hm hv => ?_) hlt
  unfold sCut1 at hs
  split at hs
  · rename_i s sep
    split at hs
    · rename_i b hb
      split at hs
      · rename_i hc
        simp only [Option.some.injEq, Prod.mk.injEq] at hs
        obtain ⟨rfl, rfl⟩ := hs
        obtain ⟨v, u, rfl, h0, h1⟩ := args_two hv
        rw [h0.str_inv, h1.str_inv]
        obtain ⟨_, _, hcell, m, rfl⟩ := hm.wf.pk.pv g _ hp
        have := h s sep m c.w hc hcell
        rw [hb, cut1_eq] at this
        refine ⟨rfl, rfl, fun _ _ _ => (by simp), _, fun _ => tup3 (.dat (.str _)) (.dat (.str _)) (.dat (.bool _)), this.mono fun e w' q => ⟨q.1, ?_⟩⟩
        obtain ⟨_, n, rfl⟩ := q
        exact below_drewN (RowKit.Below.refl _ _) n
      · cases hs
    · cases hs
  · cases hs

/-- strconv.Atoi, at every text -/
noncomputable def sAtoiA : Spec := fun xs G => match xs with
  | [.dat (.str s)] => if s.size ≤ 281474976710656 then match Go.Lib.atoiAll s.data.toList with
    | .ok n => some (.tup [.dat (.int .i64 n), .nili], G)
    | .range => some (.tup [.dat (.int .i64 (Go.Lib.atoiSat s.data.toList)), .err], G)
    | _ => some (.tup [.dat (.int .i64 0), .err], G)
    else none
  | _ => none
/-- a variable of an interface's type -/
def IsI (v : Value) : Prop := v = .nilIface ∨ ∃ t p, v = .iface t p
theorem sAtoiA_ok {P : Program} {f : FuncId} (hf : Enters P f) {g1 g2 : Nat} {t t2 : TypeId} (hp1 : pkgPv g1 = some IsI) (hp2 : pkgPv g2 = some IsI)
    (h1 : ∀ (s : ByteArray), s.size ≤ 9223372036854775806 → ∀ v, Go.Lib.atoiAll s.data.toList = .ok v → ∀ w : World, Calls P f #[.string s] w fun e w' => e = .returned (.tuple #[.int .i64 v, .nilIface]) ∧ (w' = w ∨ ∃ q, w' = Go.Lib.bytesWorld w t2 q))
    (h2 : ∀ (s : ByteArray), s.size ≤ 281474976710656 → (∀ v, Go.Lib.atoiAll s.data.toList ≠ .ok v) → Go.Lib.atoiAll s.data.toList ≠ .range → ∀ (ev : Value) (w : World), w.cell? ⟨g1, 0, none⟩ = some ev → (ev = .nilIface ∨ ∃ te pe, ev = .iface te pe) → Calls P f #[.string s] w fun e w' => ∃ N, e = .returned (.tuple #[.int .i64 0, .iface t (.pointer (some ⟨N, 0, none⟩))]) ∧ RowKit.Below w.heap.size w w')
    (h3 : ∀ (s : ByteArray), s.size ≤ 281474976710656 → Go.Lib.atoiAll s.data.toList = .range → ∀ (ev : Value) (w : World), w.cell? ⟨g2, 0, none⟩ = some ev → (ev = .nilIface ∨ ∃ te pe, ev = .iface te pe) → Calls P f #[.string s] w fun e w' => ∃ N, e = .returned (.tuple #[.int .i64 (Go.Lib.atoiSat s.data.toList), .iface t (.pointer (some ⟨N, 0, none⟩))]) ∧ RowKit.Below w.heap.size w w')
    (hlt : f < yB := by decide) : COk P f sAtoiA := by
  refine COk.belowW hf (fun c xs G vs r G' hs hm hv => ?_) hlt
  unfold sAtoiA at hs
  split at hs
  · rename_i s
    split at hs
    · rename_i hc
      cases hq : Go.Lib.atoiAll s.data.toList
      all_goals
        simp only [hq, Option.some.injEq, Prod.mk.injEq] at hs
        obtain ⟨rfl, rfl⟩ := hs
        obtain ⟨v, rfl, h0⟩ := args_one hv
        rw [h0.str_inv]
        refine ⟨rfl, rfl, fun _ _ _ => (by simp), ?_⟩
      · refine (h1 s (by omega) _ hq c.w).mono fun e w' q => ⟨_, q.1, fun _ => tup2 (.dat (.int _ _)) .nili, ?_⟩
        rcases q.2 with q | ⟨t, q⟩
        · rw [q]; exact RowKit.Below.refl _ _
        · rw [q]; exact Go.Lib.bytesWorld_below _ _ _
      · obtain ⟨_, ev, hcell, hev⟩ := hm.wf.pk.pv g1 _ hp1
        refine (h2 s hc (fun v h => by rw [hq] at h; cases h) (fun h => by rw [hq] at h; cases h) ev c.w hcell hev).mono fun e w' q => ?_
        obtain ⟨N, q1, q2⟩ := q
        exact ⟨_, q1, fun _ => tup2 (.dat (.int _ _)) (.err _ _), q2⟩
      · obtain ⟨_, ev, hcell, hev⟩ := hm.wf.pk.pv g2 _ hp2
        refine (h3 s hc hq ev c.w hcell hev).mono fun e w' q => ?_
        obtain ⟨N, q1, q2⟩ := q
        exact ⟨_, q1, fun _ => tup2 (.dat (.int _ _)) (.err _ _), q2⟩
    · cases hs
  · cases hs

end Go.Eng
end
