/- Evaluation into trees: what hangs on data is asked, not decided. -/
import Derived.Test.YtkbbgehnooncoaaGreatDoorWp2
section
namespace Go.Eng
open Go

inductive Tr (α : Type) : Type 1 where
  | ret (a : α)
  | fail
  | ask (b : Bool) (t e : Tr α)
  | get {β : Type} (o : Option β) (k : β → Tr α)
  | frc {σ : Type} (s : σ) (k : σ → Tr α)

def Tr.bind {α β : Type} : Tr α → (α → Tr β) → Tr β
  | .ret a, f => f a
  | .fail, _ => .fail
  | .ask b t e, f => .ask b (t.bind f) (e.bind f)
  | .get o k, f => .get o fun x => (k x).bind f
  | .frc s k, f => .frc s fun x => (k x).bind f

def Tr.run {α : Type} : Tr α → Option α
  | .ret a => some a
  | .fail => none
  | .ask b t e => match b with
    | true => t.run
    | false => e.run
  | .get o k => match o with
    | some x => (k x).run
    | none => none
  | .frc s k => (k s).run

theorem Tr.run_bind {α β : Type} (t : Tr α) (f : α → Tr β) : (t.bind f).run = t.run.bind fun a => (f a).run := by
  induction t with
  | ret a => rfl
  | fail => rfl
  | ask b t e iht ihe => cases b <;> simp only [Tr.bind, Tr.run, iht, ihe]
  | get o k ih => cases o with
    | none => rfl
    | some x => simp only [Tr.bind, Tr.run, ih]
  | frc s k ih => simp only [Tr.bind, Tr.run, ih]

/-- of what is known -/
def Tr.of {α : Type} : Option α → Tr α
  | some a => .ret a
  | none => .fail

theorem Tr.run_of {α : Type} (o : Option α) : (Tr.of o).run = o := by cases o <;> rfl

/-- it must be so -/
def Tr.req {α : Type} (b : Bool) (t : Tr α) : Tr α := .ask b t .fail

theorem Tr.run_req {α : Type} {b : Bool} {t : Tr α} {a : α} (h : (Tr.req b t).run = some a) : b = true ∧ t.run = some a := by
  cases b with
  | true => exact ⟨rfl, h⟩
  | false => cases h

/-- so many cells, each by itself -/
def cellsD {α : Type} : Nat → List D → (List D → Tr α) → Tr α
  | 0, _, k => k []
  | n + 1, x, k => .get x.head? fun d => cellsD n x.tail fun ds => k (d :: ds)

theorem run_cellsD {α : Type} : ∀ (n : Nat) (x : List D) (k : List D → Tr α) (a : α), (cellsD n x k).run = some a → n ≤ x.length ∧ (k (x.take n)).run = some a
  | 0, x, k, a, h => ⟨Nat.zero_le _, by simpa [cellsD] using h⟩
  | n + 1, [], k, a, h => by simp [cellsD, Tr.run] at h
  | n + 1, d :: r, k, a, h => by
    simp only [cellsD, List.head?_cons, Tr.run, List.tail_cons] at h
    obtain ⟨h1, h2⟩ := run_cellsD n r _ a h
    exact ⟨by simpa using h1, by simpa using h2⟩

/-- data of a kind -/
def D.int? (k : IntKind) : D → Option Int
  | .int k' n => if k' = k then some n else none
  | _ => none

def D.bool? : D → Option Bool
  | .bool b => some b
  | _ => none

def D.str? : D → Option ByteArray
  | .str s => some s
  | _ => none

theorem D.int?_some {k : IntKind} {d : D} {n : Int} (h : D.int? k d = some n) : d = .int k n := by
  unfold D.int? at h
  split at h
  · split at h
    · rename_i hk; injection h with h; rw [h, hk]
    · cases h
  · cases h

theorem D.bool?_some {d : D} {b : Bool} (h : D.bool? d = some b) : d = .bool b := by
  cases d <;> simp_all [D.bool?]

theorem D.str?_some {d : D} {s : ByteArray} (h : D.str? d = some s) : d = .str s := by
  cases d <;> simp_all [D.str?]

def D.anyInt? : D → Option Int
  | .int _ n => some n
  | _ => none

def D.list? : D → Option (LK × Nat × Row)
  | .list k sz xs => some (k, sz, xs)
  | _ => none

/-! ### operations -/

def tIntBin (op : BinOp) (k : IntKind) (d e : D) : Tr AV :=
  match op with
  | .shl => .get (D.int? k d) fun a => .get (D.anyInt? e) fun b => .req (decide (0 ≤ b)) (.ret (wrapD k (a * 2 ^ (min b.toNat k.bits))))
  | .shr => .get (D.int? k d) fun a => .get (D.anyInt? e) fun b => .req (decide (0 ≤ b)) (.ret (.dat (.int k (a.fdiv (2 ^ (min b.toNat k.bits))))))
  | .quo => .get (D.int? k d) fun a => .get (D.int? k e) fun b => .req (!decide (b = 0)) (.ret (wrapD k (a.tdiv b)))
  | .rem => .get (D.int? k d) fun a => .get (D.int? k e) fun b => .req (!decide (b = 0)) (.ret (.dat (.int k (a.tmod b))))
  | op => .get (D.int? k d) fun a => .get (D.int? k e) fun b => .of (intBin op k a k b)

def tStrBin (op : BinOp) (d e : D) : Tr AV :=
  .get (D.str? d) fun a => .get (D.str? e) fun b => match op with
    | .add => .req (Nat.ble (a.size + b.size) 9223372036854775807) (.ret (.dat (.str (a ++ b))))
    | op => .of (strBin op a b)

/-- is it nil? -/
def tNil (k : Nat) (x : AV) : Tr Bool :=
  match x with
  | .dat d => if k = 1 then .get (D.list? d) fun p => .ret p.1.isNil else .fail
  | x => match isNil x with
    | some (k1, a) => if k1 = k then .ret a else .fail
    | none => .fail

def tbin (T : Tab) (op : BinOp) (t : TypeId) (x y : AV) (lit : Bool) : Tr AV :=
  match kindT T t with
  | some (.int k) => match x, y with
    | .dat d, .dat e => tIntBin op k d e
    | _, _ => .fail
  | some .str => match x, y with
    | .dat d, .dat e => tStrBin op d e
    | _, _ => .fail
  | some .bool => match x, y with
    | .dat d, .dat e => .get (D.bool? d) fun a => .get (D.bool? e) fun b => match op with
      | .eql => .ret (.dat (.bool (a == b)))
      | .neq => .ret (.dat (.bool (!(a == b))))
      | _ => .fail
    | _, _ => .fail
  | some k => if lit then
      (tNil (nilKind k) x).bind fun a => (tNil (nilKind k) y).bind fun b => .req (a || b) (match op with
        | .eql => .ret (.dat (.bool (a && b)))
        | .neq => .ret (.dat (.bool (!(a && b))))
        | _ => .fail)
    else .of (bin T op t x y lit)
  | none => .fail

def tun (op : UnOp) (T : Tab) (t : TypeId) (x : AV) : Tr AV :=
  match x with
  | .dat d => match kindT T t with
    | some (.int k) => .get (D.int? k d) fun n => .of (un op (.dat (.int k n)))
    | some .bool => .get (D.bool? d) fun b => .of (un op (.dat (.bool b)))
    | _ => .fail
  | _ => .fail

def tindexAddr (T : Tab) (t : TypeId) (x i : AV) : Tr AV :=
  match i with
  | .dat d => .get (D.anyInt? d) fun n => match kindT T t with
    | some (.arr len e) => match sizeT T e with
      | some sz => .req (decide (0 ≤ n) && decide (n < len)) (match x with
        | .ptr r o => .ret (.ptr r (o + n.toNat * sz))
        | .ept r s j o => .ret (.ept r s j (o + n.toNat * sz))
        | .gept g j e s k o => .ret (.gept g j e s k (o + n.toNat * sz))
        | .dpt s xs j o => .ret (.dpt s xs j (o + n.toNat * sz))
        | _ => .fail)
      | none => .fail
    | some (.slice e) => match sizeT T e with
      | some sz => match x with
        | .sh _ r s off len => if s = sz then .req (decide (0 ≤ n) && decide (n < len)) (.ret (.ept r sz (off + n.toNat) 0)) else .fail
        | .gh _ g j e s off len => if s = sz then .req (decide (0 ≤ n) && decide (n < len)) (.ret (.gept g j e sz (off + n.toNat) 0)) else .fail
        | .dat d => .get (D.list? d) fun p => .req (decide (p.2.1 = sz) && (decide (0 ≤ n) && decide (n < p.2.2.length))) (.ret (.dpt sz p.2.2 n.toNat 0))
        | _ => .fail
      | none => .fail
    | _ => .fail
  | _ => .fail

def tindex (T : Tab) (t : TypeId) (x i : AV) : Tr AV :=
  match x with
  | .dat d => match i with
    | .dat e => match kindT T t with
      | some .str => .get (D.str? d) fun s => .get (D.anyInt? e) fun n => .req (decide (0 ≤ n)) (.get (s[n.toNat]?) fun b => .ret (.dat (.int .u8 b.toNat)))
      | _ => .fail
    | _ => .fail
  | x => .of (index T t x i)

/-- a bound of a slice -/
def tBound (d : Int) : Option AV → Tr Int
  | none => .ret d
  | some (.dat e) => .get (D.anyInt? e) .ret
  | _ => .fail

/-- the bounds of a slice -/
def tBounds {α : Type} (len : Nat) (lo hi : Option AV) (k : Int → Int → Tr α) : Tr α :=
  (tBound 0 lo).bind fun l => (tBound len hi).bind fun h => .req (decide (0 ≤ l) && (decide (l ≤ h) && decide (h ≤ (len : Int)))) (k l h)

def tslice (T : Tab) (t : TypeId) (x : AV) (lo hi mx : Option AV) : Tr AV :=
  match kindT T t with
  | some .str => match x with
    | .dat d => match mx with
      | none => .get (D.str? d) fun s => tBounds s.size lo hi fun l h => .ret (.dat (.str (s.extract l.toNat h.toNat)))
      | some _ => .fail
    | _ => .fail
  | some (.slice e) => match sizeT T e with
    | some sz => match x with
      | .dat d => .get (D.list? d) fun p => tBounds p.2.2.length lo hi fun l h => match mx with
        | none => .req (decide (p.1 = .nil) || decide (p.2.1 = sz)) (.ret (.dat (.list (if p.1 = .full ∧ h < p.2.2.length then .any else p.1) p.2.1 ((p.2.2.drop l.toNat).take (h.toNat - l.toNat)))))
        | some (.dat m) => .get (D.anyInt? m) fun m => .req (!decide (p.1 = .nil) && (decide (p.2.1 = sz) && (decide (m = h) && hi.isSome))) (.ret (.dat (.list .full p.2.1 ((p.2.2.drop l.toNat).take (h.toNat - l.toNat)))))
        | _ => .fail
      | .sh f r s off len => if s = sz then tBounds len lo hi fun l h => match mx with
          | none => .ret (.sh (f && decide (h = len)) r s (off + l.toNat) (h.toNat - l.toNat))
          | some (.dat m) => .get (D.anyInt? m) fun m => .req (decide (m = h) && hi.isSome) (.ret (.sh true r s (off + l.toNat) (h.toNat - l.toNat)))
          | _ => .fail
        else .fail
      | .gh f g j e s off len => if s = sz then tBounds len lo hi fun l h => match mx with
          | none => .ret (.gh (f && decide (h = len)) g j e s (off + l.toNat) (h.toNat - l.toNat))
          | some (.dat m) => .get (D.anyInt? m) fun m => .req (decide (m = h) && hi.isSome) (.ret (.gh true g j e s (off + l.toNat) (h.toNat - l.toNat)))
          | _ => .fail
        else .fail
      | _ => .fail
    | none => .fail
  | _ => .fail

/-- what is appended -/
def tnews (T : Tab) (m : Mem) (sz : Nat) (t2 : TypeId) (y : AV) : Tr Row :=
  match y with
  | .dat d => if isStrT T t2 then (if sz = 1 then .get (D.str? d) fun s => .ret (s.data.toList.map byteRow) else .fail)
    else .get (D.list? d) fun p => .req (p.1.isNil || decide (p.2.1 = sz)) (.ret p.2.2)
  | y => .of (newsOf m sz y)

/-- the room of an append -/
def fits (te : TI) (n : Nat) : Bool := decide (n * te.bytes ≤ 140737488355328) && decide (n ≤ 9223372036854775807)

/-- a new row, if anything comes behind -/
def tgrown (x : AV) (m : Mem) (fresh sz : Nat) (xs ys : Row) (len : Nat) : Tr (AV × Mem) :=
  .ask ys.isEmpty (.ret (x, m)) (.ret (.sh false fresh sz 0 (len + ys.length), m.set (.loc fresh) (.row .excl sz (xs ++ ys))))

def tappend (T : Tab) (m : Mem) (fresh : Nat) (t t2 : TypeId) (x y : AV) : Tr (AV × Mem) :=
  match T t with
  | some ti => match ti.k with
    | .slice e => match T e with
      | some te => if te.zero.length = te.size ∧ 0 < te.size ∧ (isSlT T t2 || isStrT T t2) = true then
          (tnews T m te.size t2 y).bind fun ys => match x with
            | .dat d => .get (D.list? d) fun p => .ask (decide (p.1 = .nil))
                (.req (p.2.2.isEmpty && fits te ys.length) (.ask ys.isEmpty (.ret (.dat (.list .nil 0 []), m)) (.ret (.sh false fresh te.size 0 ys.length, m.set (.loc fresh) (.row .excl te.size ys)))))
                (.req (decide (p.1 = .full) && (decide (p.2.1 = te.size) && fits te (p.2.2.length + ys.length))) (tgrown (.dat (.list .full p.2.1 p.2.2)) m fresh p.2.1 p.2.2 ys p.2.2.length))
            | .sh full i sz off len => if sz = te.size then match m.get (.loc i) with
                | some (.row md sz' xs) => if sz' = sz then
                    .req (decide (off + len ≤ xs.length) && fits te (len + ys.length)) (.ask full
                      (tgrown (.sh full i sz off len) m fresh sz ((xs.drop off).take len) ys len)
                      (if md = .ro then .fail else .req (decide (off = 0) && decide (len = xs.length)) (.ret (.sh false fresh sz 0 (len + ys.length),
                          (m.set (.loc i) (match md with | .own => .row .ro sz xs | _ => .gone)).set (.loc fresh) (.row md sz (xs ++ ys))))))
                  else .fail
                | _ => .fail
              else .fail
            | .gh full g j e sz off len => if sz = te.size then match m.rowAt g j e with
                | some (md, sz', xs) => if sz' = sz then
                    .req (decide (off + len ≤ xs.length) && fits te (len + ys.length)) (.ask full
                      (tgrown (.gh full g j e sz off len) m fresh sz ((xs.drop off).take len) ys len)
                      (if md = .ro then .fail else .req (decide (off = 0) && decide (len = xs.length)) (.ret (.sh false fresh sz 0 (len + ys.length),
                          ((m.setRow g j .dead).tick).set (.loc fresh) (.row md sz (xs ++ ys))))))
                  else .fail
                | _ => .fail
              else .fail
            | _ => .fail
        else .fail
      | none => .fail
    | _ => .fail
  | none => .fail

/-- cells of an element -/
def trowVal (agg : Bool) (x : List D) (off n : Nat) : Tr AV :=
  cellsD n (x.drop off) fun ds => if agg then .ret (.agg (ds.map .dat)) else match ds with
    | [d] => .ret (.dat d)
    | _ => .fail

def tload (T : Tab) (m : Mem) (t : TypeId) (a : AV) : Tr AV :=
  match T t with
  | some ti => if ti.size = 0 then .fail else match a with
    | .ept i sz k off => match m.get (.loc i) with
      | some (.row _ sz' xs) => if sz' = sz then .get (xs[k]?) fun x => trowVal ti.k.isAgg x off ti.size else .fail
      | _ => .fail
    | .gept g j e sz k off => match m.rowAt g j e with
      | some (_, sz', xs) => if sz' = sz then .get (xs[k]?) fun x => trowVal ti.k.isAgg x off ti.size else .fail
      | _ => .fail
    | .dpt _ xs k off => .get (xs[k]?) fun x => trowVal ti.k.isAgg x off ti.size
    | a => .of (load T m t a)
  | none => .fail

theorem run_trowVal {agg : Bool} {x : List D} {off n : Nat} {a : AV} (h : (trowVal agg x off n).run = some a) (hn : 0 < n) : rowVal agg x off n = some a := by
  obtain ⟨h1, h2⟩ := run_cellsD _ _ _ _ h
  simp only [List.length_drop] at h1
  unfold rowVal
  rw [if_pos (by omega)]
  split at h2
  · rename_i ha
    rw [if_pos ha]
    exact h2
  · rename_i ha
    rw [if_neg ha]
    split at h2
    · rename_i d hd
      rw [hd]; exact h2
    · cases h2

/-- is it carried out? -/
def tgoes (ops : List Oper) (tmps : List AV) (o : Oper) : Tr Bool :=
  match o.guard with
  | none => .ret true
  | some (j, want) => match (ops[j]?).bind (·.dst) with
    | some d => match tmps[d]? with
      | some (.dat v) => .get (D.bool? v) fun b => .ask (b == want) (.ret true) (.ret false)
      | some .undef => .ret false
      | _ => .fail
    | none => .fail

def tpick (c a b : AV) : Tr AV :=
  match c with
  | .dat d => .get (D.bool? d) fun t => .ask t (.ret a) (.ret b)
  | _ => .fail

abbrev TOrc := FuncId → List AV → List Ent → Tr (AV × List Ent)

def Tr.keepM (t : Tr AV) (m : Mem) : Tr (AV × Mem) := t.bind fun a => .ret (a, m)

end Go.Eng
end
