/- What the evaluator's values say of the machine's memory. -/
import Derived.Test.YtkbbgehnooncoaaGreatDoorWp2
import Derived.Laws.Rows
import Derived.Laws.AppendOwn
import Derived.Lib.FrozenHead
import Derived.Lib.ConvBytes
import Derived.Below
section
namespace Go.Eng
open Go Go.RowKit

/-! ### data -/

inductive RD (w : World) (lv : Nat → Nat) : D → Value → Prop
  | bool (b : Bool) : RD w lv (.bool b) (.bool b)
  | int (k : IntKind) (n : Int) : RD w lv (.int k n) (.int k n)
  | str (s : ByteArray) : RD w lv (.str s) (.string s)
  | nil (sz : Nat) : RD w lv (.list .nil sz []) (.slice none 0 0)
  | void {k : LK} (sz : Nat) (a : Addr) (hk : k ≠ .nil) : RD w lv (.list k sz []) (.slice (some a) 0 0)
  | list {k : LK} {sz : Nat} {xs : Row} {b o cap : Nat} (vs : Nat → Nat → Value) (hsz : ∀ x ∈ xs, x.length = sz) (hcap : xs.length ≤ cap) (hmax : cap ≤ maxLen)
      (hlv : 0 < xs.length → o + xs.length * sz ≤ lv b)
      (hc : ∀ k x j d, xs[k]? = some x → x[j]? = some d → w.cell? ⟨b, o + (k * sz + j), none⟩ = some (vs k j))
      (hr : ∀ k x j d, xs[k]? = some x → x[j]? = some d → RD w lv d (vs k j)) (hk : k ≠ .nil) (hfu : k = .full → cap = xs.length) :
      RD w lv (.list k sz xs) (.slice (some ⟨b, o, none⟩) xs.length cap)

/-- What is told of frozen cells stays true. -/
structure Stay (w : World) (lv : Nat → Nat) (w' : World) (lv' : Nat → Nat) : Prop where
  cell : ∀ b o, o < lv b → w'.cell? ⟨b, o, none⟩ = w.cell? ⟨b, o, none⟩
  lv : ∀ b, lv b ≤ lv' b

theorem Stay.refl (w : World) (lv : Nat → Nat) : Stay w lv w lv := ⟨fun _ _ _ => rfl, fun _ => Nat.le_refl _⟩

theorem Stay.trans {w1 w2 w3 : World} {l1 l2 l3 : Nat → Nat} (h : Stay w1 l1 w2 l2) (k : Stay w2 l2 w3 l3) : Stay w1 l1 w3 l3 :=
  ⟨fun b o ho => (k.cell b o (Nat.lt_of_lt_of_le ho (h.lv b))).trans (h.cell b o ho), fun b => Nat.le_trans (h.lv b) (k.lv b)⟩

theorem idx_lt {xs : Row} {sz k j : Nat} {x : List D} {d : D} (hsz : ∀ x ∈ xs, x.length = sz) (hx : xs[k]? = some x) (hd : x[j]? = some d) : k * sz + j < xs.length * sz := by
  have hk := (List.getElem?_eq_some_iff.1 hx).1
  have hj := (List.getElem?_eq_some_iff.1 hd).1
  have := hsz x (List.mem_of_getElem? hx)
  have h1 : (k + 1) * sz ≤ xs.length * sz := Nat.mul_le_mul_right _ hk
  rw [Nat.add_mul] at h1
  omega

theorem RD.stay {w w' : World} {lv lv' : Nat → Nat} (h : Stay w lv w' lv') {d : D} {v : Value} (r : RD w lv d v) : RD w' lv' d v := by
  induction r with
  | bool b => exact .bool b
  | int k n => exact .int k n
  | str s => exact .str s
  | nil sz => exact .nil sz
  | void sz a hk => exact .void sz a hk
  | @list k sz xs b o cap vs hsz hcap hmax hlv hc hr hk hfu ih =>
    refine .list vs hsz hcap hmax (fun hp => Nat.le_trans (hlv hp) (h.lv b)) (fun k x j d hx hd => ?_) ih hk hfu
    rw [h.cell, hc k x j d hx hd]
    have := idx_lt hsz hx hd
    have hp : 0 < xs.length := by
      have := (List.getElem?_eq_some_iff.1 hx).1
      omega
    have := hlv hp
    omega

theorem RD.oneCell {w : World} {lv : Nat → Nat} {d : D} {v : Value} (r : RD w lv d v) : v.oneCell' = true := by
  cases r <;> rfl

theorem RD.cells {w : World} {lv : Nat → Nat} {d : D} {v : Value} (r : RD w lv d v) : v.cells = #[v] := by
  cases r <;> rfl

/-! ### who owns a block -/

inductive Who where
  | lent (i : Nat)
  | gobj (g : Nat)
  | grow (g j : Nat)
  deriving DecidableEq

structure Cx where
  w : World
  lv : Nat → Nat
  own : Nat → Option Who
  bl : Nat → Option Nat
  bg : Nat → Option Nat
  rl : Nat → Nat
  ep : Nat

/-- a slice's value over a row that begins at the head of block b -/
def SliceAt (w : World) (full : Bool) (b sz off len : Nat) (v : Value) : Prop :=
  ∃ ad cap ty n, v = .slice (some ad) len cap ∧ w.shape? b = some (ty, n) ∧ len ≤ cap ∧ cap ≤ maxLen ∧ (off + cap) * sz ≤ n ∧ (full = true → cap = len) ∧
    (ad = ⟨b, off * sz, none⟩ ∨ (len = 0 ∧ cap = 0 ∧ off ≠ 0 ∧ ad.spot = none))

inductive VL (c : Cx) : AV → Value → Prop
  | dead (v : Value) : VL c .dead v
  | undef : VL c .undef Go.undef
  | dat {d : D} {v : Value} (h : RD c.w c.lv d v) : VL c (.dat d) v
  | sh {f : Bool} {i sz off len b : Nat} {v : Value} (hb : c.bl i = some b) (hl : off + len ≤ c.rl i) (h : SliceAt c.w f b sz off len v) : VL c (.sh f i sz off len) v
  | gh {f : Bool} {g j e sz off len bs os cap : Nat} (hle : len ≤ cap) (hm : cap ≤ maxLen) (hf : f = true → cap = len) (he : e ≤ c.ep)
      (h : e = c.ep → ∃ bo b l0 c0, c.bg g = some bo ∧ c.w.cell? ⟨bo, j, none⟩ = some (.slice (some ⟨b, 0, none⟩) l0 c0) ∧ off + len ≤ l0 ∧ SliceAt c.w f b sz off len (.slice (some ⟨bs, os, none⟩) len cap)) :
      VL c (.gh f g j e sz off len) (.slice (some ⟨bs, os, none⟩) len cap)
  | ptrl {i off b : Nat} (hb : c.bl i = some b) : VL c (.ptr (.loc i) off) (.pointer (some ⟨b, off, none⟩))
  | ptrg {g off b : Nat} (hb : c.bg g = some b) : VL c (.ptr (.glob g) off) (.pointer (some ⟨b, off, none⟩))
  | nilp : VL c .nilp (.pointer none)
  | ept {i sz k off b : Nat} (hb : c.bl i = some b) : VL c (.ept i sz k off) (.pointer (some ⟨b, k * sz + off, none⟩))
  | gept {g j e sz k off bs os : Nat} (he : e ≤ c.ep)
      (h : e = c.ep → ∃ bo l0 c0, c.bg g = some bo ∧ c.w.cell? ⟨bo, j, none⟩ = some (.slice (some ⟨bs, 0, none⟩) l0 c0) ∧ os = k * sz + off) : VL c (.gept g j e sz k off) (.pointer (some ⟨bs, os, none⟩))
  | dpt {sz : Nat} {xs : Row} {k off b o len cap : Nat} (h : RD c.w c.lv (.list .any sz xs) (.slice (some ⟨b, o, none⟩) len cap)) :
      VL c (.dpt sz xs k off) (.pointer (some ⟨b, o + (k * sz + off), none⟩))
  | fn {f : FuncId} {cs : List AV} {vs : Array Value} (hl : cs.length = vs.size) (h : ∀ (j : Nat) (a : AV), cs[j]? = some a → ∀ v, vs[j]? = some v → VL c a v) : VL c (.fn f cs) (.func (.func f) #[] vs)
  | nilfn : VL c .nilfn .nilFunc
  | yld {g l : Nat} (hb : c.bg g = some l) : VL c (.yld g) (.func (.yield l) #[] #[])
  | agg {cs : List AV} {vs : Array Value} (hl : cs.length = vs.size) (h : ∀ (j : Nat) (a : AV), cs[j]? = some a → ∀ v, vs[j]? = some v → VL c a v) : VL c (.agg cs) (.agg vs)
  | tup {cs : List AV} {vs : Array Value} (hl : cs.length = vs.size) (h : ∀ (j : Nat) (a : AV), cs[j]? = some a → ∀ v, vs[j]? = some v → VL c a v) : VL c (.tup cs) (.tuple vs)
  | nili : VL c .nili .nilIface
  | err (t : TypeId) (v : Value) : VL c .err (.iface t v)

/-- What holds of the world behind a step, seen from before it. -/
structure Ext (c c' : Cx) : Prop where
  os : c'.w.os = c.w.os
  tape : c'.w.tape = c.w.tape
  output : c'.w.output = c.w.output
  size : c.w.heap.size ≤ c'.w.heap.size
  stay : Stay c.w c.lv c'.w c'.lv
  fo : ∀ b, b < c.w.heap.size → c.own b = none → c'.w.heap[b]? = c.w.heap[b]? ∧ c'.own b = none ∧ c'.lv b = c.lv b
  sh : ∀ b s, c.w.shape? b = some s → c'.w.shape? b = some s
  bl : ∀ i b, c.bl i = some b → c'.bl i = some b
  bg : ∀ g b, c.bg g = some b → c'.bg g = some b
  rl : ∀ i b, c.bl i = some b → c'.rl i = c.rl i
  ep : c.ep ≤ c'.ep
  gc : c'.ep = c.ep → ∀ g b j v, c.bg g = some b → c.w.cell? ⟨b, j, none⟩ = some v → c'.w.cell? ⟨b, j, none⟩ = some v

theorem Ext.refl (c : Cx) : Ext c c := ⟨rfl, rfl, rfl, Nat.le_refl _, .refl _ _, fun _ _ h => ⟨rfl, h, rfl⟩, fun _ _ h => h, fun _ _ h => h, fun _ _ h => h, fun _ _ _ => rfl, Nat.le_refl _, fun _ _ _ _ _ _ h => h⟩

theorem Ext.trans {a b c : Cx} (h : Ext a b) (k : Ext b c) : Ext a c where
  os := k.os.trans h.os
  tape := k.tape.trans h.tape
  output := k.output.trans h.output
  size := Nat.le_trans h.size k.size
  stay := h.stay.trans k.stay
  fo := fun x hx hn => by
    obtain ⟨h1, h2, h3⟩ := h.fo x hx hn
    obtain ⟨k1, k2, k3⟩ := k.fo x (Nat.lt_of_lt_of_le hx h.size) h2
    exact ⟨k1.trans h1, k2, k3.trans h3⟩
  sh := fun b s hs => k.sh b s (h.sh b s hs)
  bl := fun i b hb => k.bl i b (h.bl i b hb)
  bg := fun i b hb => k.bg i b (h.bg i b hb)
  rl := fun i b hb => (k.rl i b (h.bl i b hb)).trans (h.rl i b hb)
  ep := Nat.le_trans h.ep k.ep
  gc := fun he g b j v hg hv => by
    have e1 : b = b := rfl
    have h1 := h.ep
    have k1 := k.ep
    exact k.gc (by omega) g b j v (h.bg g b hg) (h.gc (by omega) g b j v hg hv)

theorem SliceAt.ext {w w' : World} {f : Bool} {b sz off len : Nat} {v : Value} (hs : ∀ s, w.shape? b = some s → w'.shape? b = some s) (h : SliceAt w f b sz off len v) : SliceAt w' f b sz off len v := by
  obtain ⟨ad, cap, ty, n, e, h1, r⟩ := h
  exact ⟨ad, cap, ty, n, e, hs _ h1, r⟩

theorem VL.ext {c c' : Cx} (x : Ext c c') {a : AV} {v : Value} (h : VL c a v) : VL c' a v := by
  induction h with
  | dead v => exact .dead v
  | undef => exact .undef
  | dat h => exact .dat (h.stay x.stay)
  | sh hb hl h => exact .sh (x.bl _ _ hb) (by rw [x.rl _ _ hb]; exact hl) (h.ext (x.sh _))
  | gh hle hm hf he h =>
    refine .gh hle hm hf (Nat.le_trans he x.ep) (fun e' => ?_)
    have hep := x.ep
    obtain ⟨bo, b, l0, c0, h1, h2, h2', h3⟩ := h (by omega)
    exact ⟨bo, b, l0, c0, x.bg _ _ h1, x.gc (by omega) _ _ _ _ h1 h2, h2', h3.ext (x.sh _)⟩
  | ptrl hb => exact .ptrl (x.bl _ _ hb)
  | ptrg hb => exact .ptrg (x.bg _ _ hb)
  | nilp => exact .nilp
  | ept hb => exact .ept (x.bl _ _ hb)
  | gept he h =>
    refine .gept (Nat.le_trans he x.ep) (fun e' => ?_)
    have hep := x.ep
    obtain ⟨bo, l0, c0, h1, h2, h3⟩ := h (by omega)
    exact ⟨bo, l0, c0, x.bg _ _ h1, x.gc (by omega) _ _ _ _ h1 h2, h3⟩
  | dpt h => exact .dpt (h.stay x.stay)
  | fn hl _ ih => exact .fn hl ih
  | nilfn => exact .nilfn
  | yld hb => exact .yld (x.bg _ _ hb)
  | agg hl _ ih => exact .agg hl ih
  | tup hl _ ih => exact .tup hl ih
  | nili => exact .nili
  | err t v => exact .err t v

/-! ### memory -/

/-- no cell of the row is frozen -/
def NoFrz (n : Nat) (fz : Nat × Nat) : Prop := ∀ k, k < n → ¬ (fz.1 ≤ k ∧ k < fz.2)

/-- the first cells of a row read as these elements -/
structure RowC (c : Cx) (sz : Nat) (xs : Row) (cur : Array Value) : Prop where
  hsz : ∀ x ∈ xs, x.length = sz
  hc : ∀ k x j d, xs[k]? = some x → x[j]? = some d → ∃ v, cur[k * sz + j]? = some v ∧ RD c.w c.lv d v

/-- how far a row of n cells is frozen -/
def Mode.lv (m : Mode) (n : Nat) : Nat :=
  match m with
  | .excl => 0
  | _ => n

structure RowOk (c : Cx) (who : Who) (b cap sz : Nat) (xs : Row) (m : Mode) : Prop where
  ex : ∃ cur ty fz, c.w.heap[b]? = some (.cells cur ty fz) ∧ NoFrz cur.size fz ∧ cap * sz ≤ cur.size ∧ RowC c sz xs cur ∧ (∀ v ∈ cur.toList, v.oneCell' = true)
  len : xs.length ≤ cap
  max : cap ≤ maxLen
  pos : 0 < sz
  own : c.own b = some who
  md : m ≠ .ro
  lv : c.lv b = m.lv (xs.length * sz)

/-- cells of an object of one's own -/
def CellsL (c : Cx) (cs : List AV) (cur : Array Value) : Prop := cs.length = cur.size ∧ ∀ (j : Nat) (a : AV), cs[j]? = some a → ∃ v, cur[j]? = some v ∧ VL c a v

def RowE (c : Cx) (i b cap sz : Nat) (xs : Row) (md : Mode) : Prop :=
  match md with
  | .ro => RD c.w c.lv (.list .any sz xs) (.slice (some ⟨b, 0, none⟩) xs.length cap) ∧ 0 < sz
  | m => RowOk c (.lent i) b cap sz xs m

def EOk (c : Cx) (i : Nat) : Ent → Prop
  | .obj cs => ∃ b cur ty, c.bl i = some b ∧ c.w.heap[b]? = some (.cells cur ty (0, 0)) ∧ c.own b = some (.lent i) ∧ c.lv b = 0 ∧ CellsL c cs cur
  | .row m sz xs => ∃ b cap, c.bl i = some b ∧ c.rl i = xs.length ∧ RowE c i b cap sz xs m
  | .fwd g => ∃ b, c.bl i = some b ∧ c.bg g = some b
  | .lrec _ _ _ _ _ => False
  | .gone => True

/-- what may go over to another call -/
def pclean : AV → Bool
  | .dat _ | .nilp | .nilfn | .nili | .err | .yld _ => true
  | .ptr (.glob _) _ => true
  | _ => false

def pclean1 : AV → Bool
  | .agg cs => cs.all pclean
  | .fn _ cs => cs.all pclean
  | a => pclean a

/-- what may lie in a loop's record -/
def tclean : AV → Bool
  | .dead => true
  | a => pclean1 a

def LS.state : LS → LoopState
  | .ready => .ready
  | .busy => .busy
  | .done _ => .done

def Ex.code : Ex → Code
  | .norm => .skip
  | .exit id => .exit id
  | .goto l => .goto l
  | .ret => .ret

def LS.pend : LS → Option Code
  | .done x => some x.code
  | _ => none

/-- the record of a range over a function -/
def LOk (c : Cx) (g : Nat) (s : LS) (ts : List AV) (ps : List Nat) (asg body : Code) : Prop :=
  ∃ l r, c.bg g = some l ∧ c.w.heap[l]? = some (.loop r) ∧ c.own l = some (.gobj g) ∧ c.lv l = 0 ∧ r.state = s.state ∧ r.params.toList = ps ∧ r.assign = asg ∧ r.body = body ∧
    (s ≠ .busy → r.pending = s.pend) ∧ ts.length = r.tmps.size ∧ ∀ (j : Nat) (a : AV), ts[j]? = some a → tclean a = true ∧ ∃ v, r.tmps[j]? = some v ∧ VL c a v

/-- nothing of a call's own is named in it -/
def gclean : AV → Bool
  | .dat _ | .nilp | .nilfn | .nili | .err | .yld _ | .dead | .rowc _ _ _ => true
  | .ptr (.glob _) _ => true
  | _ => false

def CL (c : Cx) (g j : Nat) (a : AV) (v : Value) : Prop :=
  match a with
  | .rowc m sz xs => ∃ b cap, v = .slice (some ⟨b, 0, none⟩) xs.length cap ∧ RowOk c (.grow g j) b cap sz xs m
  | a => VL c a v

def GOk (c : Cx) (g : Nat) : Ent → Prop
  | .obj cs => ∃ b cur ty, c.bg g = some b ∧ c.w.heap[b]? = some (.cells cur ty (0, 0)) ∧ c.own b = some (.gobj g) ∧ c.lv b = 0 ∧ cs.length = cur.size ∧
      ∀ (j : Nat) (a : AV), cs[j]? = some a → gclean a = true ∧ ∃ v, cur[j]? = some v ∧ CL c g j a v
  | .gone => ∃ b, c.bg g = some b ∧ c.own b = some (.gobj g)
  | .lrec s ts ps asg body => LOk c g s ts ps asg body
  | _ => False

variable [Inhabited Pkg]
set_option linter.unusedSectionVars false

/-- the program's variables are as they are told -/
structure Laid (w : World) (lv : Nat → Nat) : Prop where
  gl : ∀ g cs, pkgGl g = some cs → RD w lv (.list .any cs.length [cs]) (.slice (some ⟨g, 0, none⟩) 1 1)
  sz : ∀ g cs, pkgGl g = some cs → (w.shape? g).map (·.2) = some cs.length
  pv : ∀ g p, pkgPv g = some p → 0 < lv g ∧ ∃ v, w.cell? ⟨g, 0, none⟩ = some v ∧ p v

theorem Laid.stay {w w' : World} {lv lv' : Nat → Nat} (h : Laid w lv) (s : Stay w lv w' lv') (sh : ∀ b s, w.shape? b = some s → w'.shape? b = some s) : Laid w' lv' where
  gl := fun g cs e => (h.gl g cs e).stay s
  sz := fun g cs e => by
    have q := h.sz g cs e
    cases hs : w.shape? g with
    | none => rw [hs] at q; cases q
    | some z =>
      rw [hs] at q
      rw [sh g z hs]
      exact q
  pv := fun g p e => by
    obtain ⟨q, v, q1, q2⟩ := h.pv g p e
    exact ⟨Nat.lt_of_lt_of_le q (s.lv g), v, by rw [s.cell g 0 q]; exact q1, q2⟩

structure WF (c : Cx) : Prop where
  lv : ∀ b, c.w.heap.size ≤ b → c.lv b = 0
  own : ∀ b, c.w.heap.size ≤ b → c.own b = none
  pk : Laid c.w c.lv

structure MemOk (c : Cx) (m : Mem) : Prop where
  wf : WF c
  ep : c.ep = m.ep
  ln : ∀ i, (m.L[i]? = some none ∨ m.L.length ≤ i) → c.bl i = none
  l : ∀ i e, m.L[i]? = some (some e) → EOk c i e
  gn : ∀ g, m.G.length ≤ g → c.bg g = none
  g : ∀ g e, m.G[g]? = some e → GOk c g e

end Go.Eng
end
