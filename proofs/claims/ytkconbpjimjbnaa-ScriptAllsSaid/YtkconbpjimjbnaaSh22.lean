/- Bytes as steps: word.Get, the reader, the taker, as trees. -/
import Derived.Test.YtkconbpjimjbnaaSh21
section
namespace Go.Eng
open Go

noncomputable def t53 : TOrc := tCons 53 (fun a G => tU 53 a G) tNone
noncomputable def lp59 : Code := lpOf (codeOf Go.Proofs.Try.f59) 0
noncomputable def lp57 : Code := lpOf (codeOf Go.Proofs.Try.f57) 0
def inv59 (k : LK) (xs : Row) (len n : Int) (G : List Ent) (i : Int) : St := ⟨mkT 0 50 [(8, .dat (.int .u64 n)), (37, .dat (.list k 1 xs)), (38, .dat (.int .i64 len)), (39, .dat (.int .i64 i))], ⟨[], G, 0⟩⟩
noncomputable def rk59 (k : LK) (xs : Row) (len n : Int) (G : List Ent) (i : Int) : Tr (Ex × St) := tround TT t53 noLo (HSa 59) lp59 (inv59 k xs len n G i)
def inv57 (k : LK) (xs : Row) (at' w n : Int) (G : List Ent) (i : Int) : St := ⟨mkT 0 48 [(0, .dat (.list k 1 xs)), (1, .dat (.int .i64 at')), (2, .dat (.int .i64 w)), (8, .dat (.int .u64 n)), (9, .dat (.int .i64 i))], ⟨[], G, 0⟩⟩
noncomputable def rk57 (k : LK) (xs : Row) (at' w n : Int) (G : List Ent) (i : Int) : Tr (Ex × St) := tround TT tNone noLo (HSa 57) lp57 (inv57 k xs at' w n G i)
def out59 (G : List Ent) (n : Int) : Ex × St := (.exit 1, ⟨mkT 0 50 [(8, .dat (.int .u64 n))], ⟨[], G, 0⟩⟩)
def out57 (G : List Ent) (n : Int) : Ex × St := (.exit 0, ⟨mkT 0 48 [(8, .dat (.int .u64 n))], ⟨[], G, 0⟩⟩)
noncomputable def lo59 (n : Nat) (st : St) : Tr (Ex × St) := match n with
  | 7 => tlo TT t53.runs (HSa 59) lp59 (out59 st.mem.G) st
  | _ => .fail
noncomputable def lo57 (n : Nat) (st : St) : Tr (Ex × St) := match n with
  | 7 => tlo TT tNone.runs (HSa 57) lp57 (out57 st.mem.G) st
  | _ => .fail
noncomputable def f59t (k : LK) (xs : Row) (at' w : Int) (G : List Ent) : Tr (AV × List Ent) := tfn TT t53 lo59 Go.Proofs.Try.f59 [.dat (.list k 1 xs), .dat (.int .i64 at'), .dat (.int .i64 w)] G
noncomputable def f57t (k : LK) (xs : Row) (at' w : Int) (G : List Ent) : Tr (AV × List Ent) := tfn TT tNone lo57 Go.Proofs.Try.f57 [.dat (.list k 1 xs), .dat (.int .i64 at'), .dat (.int .i64 w)] G
noncomputable def R59 (a : List AV) (G : List Ent) : Option (AV × List Ent) := (tfn TT t53 lo59 Go.Proofs.Try.f59 a G).run
noncomputable def R57 (a : List AV) (G : List Ent) : Option (AV × List Ent) := (tfn TT tNone lo57 Go.Proofs.Try.f57 a G).run
/-- a number, and why there is none -/
def outN (G : List Ent) (p : Int × Int) : AV × List Ent := (.tup [.dat (.int .u64 p.1), .dat (.int .i64 p.2)], G)

/-- with word.Get by its results, all else inlined -/
noncomputable def t59 : TOrc := tCons 59 (fun a G => tspec (outN G) (R59 a G)) (tCons 57 (fun a G => tspec (outN G) (R57 a G)) tNone)
noncomputable def tX (f : Nat) (a : List AV) (G : List Ent) : Tr (AV × List Ent) := tinU FT TT HSa 6 [59, 57] t59 4 f a G

def rdr' (a : AV) (e : Int) : Ent := .obj [a, .dat (.int .i64 e)]
def takr' (w : Bool) : Ent := .obj [.ptr (.glob 0) 0, .dat (.bool w)]
noncomputable def m43r (xs : Row) (e : Int) (wr : Bool) (w : Int) : Tr (AV × List Ent) := tX 43 [.ptr (.glob 1) 0, .dat (.int .i64 w)] [rdr' (.rowc .excl 1 xs) e, takr' wr]
noncomputable def m43o (xs : Row) (e : Int) (wr : Bool) (w : Int) : Tr (AV × List Ent) := tX 43 [.ptr (.glob 1) 0, .dat (.int .i64 w)] [rdr' (.rowc .own 1 xs) e, takr' wr]
noncomputable def m43d (k : LK) (xs : Row) (e : Int) (wr : Bool) (w : Int) : Tr (AV × List Ent) := tX 43 [.ptr (.glob 1) 0, .dat (.int .i64 w)] [rdr' (.dat (.list k 1 xs)) e, takr' wr]
noncomputable def m45r (xs : Row) (e : Int) (wr : Bool) : Tr (AV × List Ent) := tX 45 [.ptr (.glob 0) 0, .dat (.int .i64 64)] [rdr' (.rowc .excl 1 xs) e, takr' wr]
noncomputable def m45o (xs : Row) (e : Int) (wr : Bool) : Tr (AV × List Ent) := tX 45 [.ptr (.glob 0) 0, .dat (.int .i64 64)] [rdr' (.rowc .own 1 xs) e, takr' wr]
noncomputable def m45d (k : LK) (xs : Row) (e : Int) (wr : Bool) : Tr (AV × List Ent) := tX 45 [.ptr (.glob 0) 0, .dat (.int .i64 64)] [rdr' (.dat (.list k 1 xs)) e, takr' wr]
noncomputable def m46 (a : AV) (e : Int) (wr : Bool) : Tr (AV × List Ent) := tX 46 [.ptr (.glob 1) 0] [rdr' a e, takr' wr]
noncomputable def m47r (xs : Row) (e : Int) (wr : Bool) : Tr (AV × List Ent) := tX 47 [.ptr (.glob 0) 0] [rdr' (.rowc .excl 1 xs) e, takr' wr]
noncomputable def m47o (xs : Row) (e : Int) (wr : Bool) : Tr (AV × List Ent) := tX 47 [.ptr (.glob 0) 0] [rdr' (.rowc .own 1 xs) e, takr' wr]
noncomputable def m47d (k : LK) (xs : Row) (e : Int) (wr : Bool) : Tr (AV × List Ent) := tX 47 [.ptr (.glob 0) 0] [rdr' (.dat (.list k 1 xs)) e, takr' wr]
noncomputable def m42 (kb : LK) (xs : Row) : Tr (AV × List Ent) := tX 42 [.dat (.list kb 1 xs)] []

noncomputable def R42 (a : List AV) (G : List Ent) : Option (AV × List Ent) := (tX 42 a G).run
noncomputable def R43 (a : List AV) (G : List Ent) : Option (AV × List Ent) := (tX 43 a G).run
noncomputable def R45 (a : List AV) (G : List Ent) : Option (AV × List Ent) := (tX 45 a G).run
noncomputable def R47 (a : List AV) (G : List Ent) : Option (AV × List Ent) := (tX 47 a G).run
def out42 (G : List Ent) (a : AV) : AV × List Ent := (.ptr (.glob G.length) 0, G ++ [rdr' a 0])
def out43 (G : List Ent) (p : Int × AV × Int) : AV × List Ent := (.dat (.int .i64 p.1), rdr' p.2.1 p.2.2 :: G.tail)
def out45y (G : List Ent) (p : Row × AV × Int) : AV × List Ent := (.own true 1 p.1, rdr' p.2.1 p.2.2 :: G.tail)
def out45n (G : List Ent) (p : AV × Int) : AV × List Ent := (.dat (.list .nil 0 []), rdr' p.1 p.2 :: G.tail)
def out47 (G : List Ent) (n : Int) : AV × List Ent := (.dat (.int .i64 n), G)
/-- the reader's functions by their results; the taker's inlined -/
noncomputable def tR : TOrc := tCons 42 (fun a G => tspec (out42 G) (R42 a G)) (tCons 43 (fun a G => tspec (out43 G) (R43 a G)) (tCons 45 (fun a G => tspec2 (out45y G) (out45n G) (R45 a G)) (tCons 47 (fun a G => tspec (out47 G) (R47 a G)) tNone)))
noncomputable def tY (n : Nat) (f : Nat) (a : List AV) (G : List Ent) : Tr (AV × List Ent) := tinU FT TT HSa 6 [42, 43, 45, 47] tR n f a G
noncomputable def lp23 : Code := lpOf (codeOf Go.Proofs.Try.f23) 0
noncomputable def h23 (op : St → Option (Ex × St)) (k : LK) (xs : Row) : Tr (AV × List Ent) :=
  tfn TT (tY 3) (fun _ st => .get (op (tidy (HSa 23 6) st)) fun x => .ret x) Go.Proofs.Try.f23 [.dat (.list k 1 xs)] []

def z7 : AV := .dat (.int .i64 0)
def zero23 : Option Ent := some (.obj [.dat (.int .i64 0), .dat (.int .i64 0), .dat (.int .i64 0), .dat (.int .i64 0), .dat (.str ⟨#[]⟩), .dat (.int .i64 0), .dat (.list .nil 0 [])])
def inv23a (k : LK) (xs : Row) (kd nd at' nn : Int) (s : ByteArray) (p : Int) (n : Int) (a : AV) (e : Int) (wr : Bool) : St :=
  ⟨mkT 0 66 [(0, .dat (.list k 1 xs)), (2, .ptr (.loc 0) 0), (5, .ptr (.glob 1) 0), (6, .ptr (.loc 1) 0), (7, .dat (.int .i64 n))], ⟨[zero23, some (.obj [.dat (.int .i64 kd), .dat (.int .i64 nd), .dat (.int .i64 at'), .dat (.int .i64 nn), .dat (.str s), .dat (.int .i64 p), .dat (.list .nil 0 [])])], [rdr' a e, takr' wr], 0⟩⟩
def inv23b (k : LK) (xs : Row) (kd nd at' nn : Int) (s : ByteArray) (p : Int) (keep : Row) (n : Int) (a : AV) (e : Int) (wr : Bool) : St :=
  ⟨mkT 0 66 [(0, .dat (.list k 1 xs)), (2, .ptr (.loc 0) 0), (5, .ptr (.glob 1) 0), (6, .ptr (.loc 1) 0), (7, .dat (.int .i64 n))], ⟨[zero23, some (.obj [.dat (.int .i64 kd), .dat (.int .i64 nd), .dat (.int .i64 at'), .dat (.int .i64 nn), .dat (.str s), .dat (.int .i64 p), .sh false 2 1 0 keep.length]), some (.row .excl 1 keep)], [rdr' a e, takr' wr], 0⟩⟩
noncomputable def rk23a (k : LK) (xs : Row) (kd nd at' nn : Int) (s : ByteArray) (p : Int) (n : Int) (a : AV) (e : Int) (wr : Bool) : Tr (Ex × St) := tround TT (tY 3) noLo (HSa 23) lp23 (inv23a k xs kd nd at' nn s p n a e wr)
noncomputable def rk23b (k : LK) (xs : Row) (kd nd at' nn : Int) (s : ByteArray) (p : Int) (keep : Row) (n : Int) (a : AV) (e : Int) (wr : Bool) : Tr (Ex × St) := tround TT (tY 3) noLo (HSa 23) lp23 (inv23b k xs kd nd at' nn s p keep n a e wr)

def out23a (k : LK) (xs : Row) (p : Int × Int × Int × Int × ByteArray × Int × AV × Int × Bool) : Ex × St :=
  (.exit 0, ⟨mkT 0 66 [(0, .dat (.list k 1 xs)), (2, .ptr (.loc 0) 0), (5, .ptr (.glob 1) 0), (6, .ptr (.loc 1) 0)], ⟨[zero23, some (.obj [.dat (.int .i64 p.1), .dat (.int .i64 p.2.1), .dat (.int .i64 p.2.2.1), .dat (.int .i64 p.2.2.2.1), .dat (.str p.2.2.2.2.1), .dat (.int .i64 p.2.2.2.2.2.1), .dat (.list .nil 0 [])])], [rdr' p.2.2.2.2.2.2.1 p.2.2.2.2.2.2.2.1, takr' p.2.2.2.2.2.2.2.2], 0⟩⟩)
def out23b (k : LK) (xs : Row) (p : Int × Int × Int × Int × ByteArray × Int × AV × Int × Bool × Row) : Ex × St :=
  (.exit 0, ⟨mkT 0 66 [(0, .dat (.list k 1 xs)), (2, .ptr (.loc 0) 0), (5, .ptr (.glob 1) 0), (6, .ptr (.loc 1) 0)], ⟨[zero23, some (.obj [.dat (.int .i64 p.1), .dat (.int .i64 p.2.1), .dat (.int .i64 p.2.2.1), .dat (.int .i64 p.2.2.2.1), .dat (.str p.2.2.2.2.1), .dat (.int .i64 p.2.2.2.2.2.1), .sh false 2 1 0 p.2.2.2.2.2.2.2.2.2.length]), some (.row .excl 1 p.2.2.2.2.2.2.2.2.2)], [rdr' p.2.2.2.2.2.2.1 p.2.2.2.2.2.2.2.1, takr' p.2.2.2.2.2.2.2.2.1], 0⟩⟩)
def arg0 (st : St) : LK × Row := match st.tmps.getD 0 .dead with
  | .dat (.list k _ xs) => (k, xs)
  | _ => (.nil, [])
noncomputable def lo23 (n : Nat) (st : St) : Tr (Ex × St) := match n with
  | 6 => tlo2 TT (TOrc.runs (tY 3)) (HSa 23) lp23 (out23a (arg0 st).1 (arg0 st).2) (out23b (arg0 st).1 (arg0 st).2) st
  | _ => .fail
noncomputable def f23t (k : LK) (xs : Row) : Tr (AV × List Ent) := tfn TT (tY 3) lo23 Go.Proofs.Try.f23 [.dat (.list k 1 xs)] []
end Go.Eng
end

/- Numbers out of bytes: what word.Get and the reference's come to. -/
section
namespace Go.Eng
open Go
set_option maxRecDepth 100000
set_option linter.unusedSimpArgs false

theorem rk59_eq (k : LK) (xs : Row) (len n : Int) (G : List Ent) (i : Int) : (rk59 k xs len n G i).ev =
  (rAsk (decide (i < len))
   (rAsk (true && ((decide ((0 : Int) ≤ i)) && (decide (i < (((List.length xs) : Nat) : Int)))))
    (rGet xs[(Int.toNat i)]? fun x1 =>
     (rGet (List.head? (List.drop 0 x1)) fun x2 =>
      (rGet (D.anyInt? x2) fun x3 =>
       (some (Ex.norm, (St.mk (mkT 0 50 [(8, (AV.dat (D.int IntKind.u64 (IntKind.wrap IntKind.u64 (((BitVec.toNat ((BitVec.ofInt 64 (IntKind.wrap IntKind.u64 (n * (256 : Int)))) ||| (BitVec.ofInt 64 (IntKind.wrap IntKind.u64 x3)))) : Nat) : Int))))), (37, (AV.dat (D.list k 1 xs))), (38, (AV.dat (D.int IntKind.i64 len))), (39, (AV.dat (D.int IntKind.i64 (IntKind.wrap IntKind.i64 (i + (1 : Int))))))]) (Mem.mk [] G 0))))
      )
     )
    )
    none
   )
   (some ((Ex.exit 1), (St.mk (mkT 0 50 [(8, (AV.dat (D.int IntKind.u64 n)))]) (Mem.mk [] G 0))))
  )
  := by kernel_rfl

theorem rk57_eq (k : LK) (xs : Row) (at' w n : Int) (G : List Ent) (i : Int) : (rk57 k xs at' w n G i).ev =
  (rAsk (decide (i < w))
   (rAsk (true && ((decide ((0 : Int) ≤ (IntKind.wrap IntKind.i64 (at' + i)))) && (decide ((IntKind.wrap IntKind.i64 (at' + i)) < (((List.length xs) : Nat) : Int)))))
    (rGet xs[(Int.toNat (IntKind.wrap IntKind.i64 (at' + i)))]? fun x1 =>
     (rGet (List.head? (List.drop 0 x1)) fun x2 =>
      (rGet (D.anyInt? x2) fun x3 =>
       (some (Ex.norm, (St.mk (mkT 0 48 [(0, (AV.dat (D.list k 1 xs))), (1, (AV.dat (D.int IntKind.i64 at'))), (2, (AV.dat (D.int IntKind.i64 w))), (8, (AV.dat (D.int IntKind.u64 (IntKind.wrap IntKind.u64 ((IntKind.wrap IntKind.u64 (n * (256 : Int))) + (IntKind.wrap IntKind.u64 x3)))))), (9, (AV.dat (D.int IntKind.i64 (IntKind.wrap IntKind.i64 (i + (1 : Int))))))]) (Mem.mk [] G 0))))
      )
     )
    )
    none
   )
   (some ((Ex.exit 0), (St.mk (mkT 0 48 [(8, (AV.dat (D.int IntKind.u64 n)))]) (Mem.mk [] G 0))))
  )
  := by kernel_rfl

theorem f59t_eq (k : LK) (xs : Row) (at' w : Int) (G : List Ent) : (f59t k xs at' w G).ev =
  (rAsk (decide (w ≥ (1 : Int)))
   (rAsk (!(decide (w ≤ (8 : Int))))
    (some ((AV.tup [(AV.dat (D.int IntKind.u64 (0 : Int))), (AV.dat (D.int IntKind.i64 (2 : Int)))]), G))
    (rAsk (decide (at' < (0 : Int)))
     (some ((AV.tup [(AV.dat (D.int IntKind.u64 (0 : Int))), (AV.dat (D.int IntKind.i64 (2 : Int)))]), G))
     (rAsk (decide (at' > (((List.length xs) : Nat) : Int)))
      (some ((AV.tup [(AV.dat (D.int IntKind.u64 (0 : Int))), (AV.dat (D.int IntKind.i64 (7 : Int)))]), G))
      (rAsk (decide ((IntKind.wrap IntKind.i64 ((((List.length xs) : Nat) : Int) - at')) < w))
       (some ((AV.tup [(AV.dat (D.int IntKind.u64 (0 : Int))), (AV.dat (D.int IntKind.i64 (7 : Int)))]), G))
       (rAsk ((decide ((0 : Int) ≤ at')) && ((decide (at' ≤ (IntKind.wrap IntKind.i64 (at' + w)))) && (decide ((IntKind.wrap IntKind.i64 (at' + w)) ≤ (((List.length xs) : Nat) : Int)))))
        (rAsk ((decide (k = LK.nil)) || true)
         (rGet (loS TT (TOrc.runs t53) (HSa 59) lp59 (out59 G) (St.mk (mkT 0 50 [(8, (AV.dat (D.int IntKind.u64 (0 : Int)))), (37, (AV.dat (D.list (if ((k = LK.full) ∧ ((IntKind.wrap IntKind.i64 (at' + w)) < (((List.length xs) : Nat) : Int))) then LK.any else k) 1 (List.take ((Int.toNat (IntKind.wrap IntKind.i64 (at' + w))) - (Int.toNat at')) (List.drop (Int.toNat at') xs))))), (38, (AV.dat (D.int IntKind.i64 (((List.length (List.take ((Int.toNat (IntKind.wrap IntKind.i64 (at' + w))) - (Int.toNat at')) (List.drop (Int.toNat at') xs))) : Nat) : Int)))), (39, (AV.dat (D.int IntKind.i64 (0 : Int))))]) (Mem.mk [] G 0))) fun x1 =>
          (some ((AV.tup [(AV.dat (D.int IntKind.u64 x1)), (AV.dat (D.int IntKind.i64 (0 : Int)))]), G))
         )
         none
        )
        none
       )
      )
     )
    )
   )
   (some ((AV.tup [(AV.dat (D.int IntKind.u64 (0 : Int))), (AV.dat (D.int IntKind.i64 (2 : Int)))]), G))
  )
  := by kernel_rfl

theorem f57t_eq (k : LK) (xs : Row) (at' w : Int) (G : List Ent) : (f57t k xs at' w G).ev =
  (rAsk (decide (w < (1 : Int)))
   (some ((AV.tup [(AV.dat (D.int IntKind.u64 (0 : Int))), (AV.dat (D.int IntKind.i64 (2 : Int)))]), G))
   (rAsk (decide (w > (8 : Int)))
    (some ((AV.tup [(AV.dat (D.int IntKind.u64 (0 : Int))), (AV.dat (D.int IntKind.i64 (2 : Int)))]), G))
    (rAsk (decide (at' < (0 : Int)))
     (some ((AV.tup [(AV.dat (D.int IntKind.u64 (0 : Int))), (AV.dat (D.int IntKind.i64 (2 : Int)))]), G))
     (rAsk (decide (at' > (((List.length xs) : Nat) : Int)))
      (some ((AV.tup [(AV.dat (D.int IntKind.u64 (0 : Int))), (AV.dat (D.int IntKind.i64 (7 : Int)))]), G))
      (rAsk (decide ((IntKind.wrap IntKind.i64 ((((List.length xs) : Nat) : Int) - at')) < w))
       (some ((AV.tup [(AV.dat (D.int IntKind.u64 (0 : Int))), (AV.dat (D.int IntKind.i64 (7 : Int)))]), G))
       (rGet (loS TT (TOrc.runs tNone) (HSa 57) lp57 (out57 G) (St.mk (mkT 0 48 [(0, (AV.dat (D.list k 1 xs))), (1, (AV.dat (D.int IntKind.i64 at'))), (2, (AV.dat (D.int IntKind.i64 w))), (8, (AV.dat (D.int IntKind.u64 (0 : Int)))), (9, (AV.dat (D.int IntKind.i64 (0 : Int))))]) (Mem.mk [] G 0))) fun x1 =>
        (some ((AV.tup [(AV.dat (D.int IntKind.u64 x1)), (AV.dat (D.int IntKind.i64 (0 : Int)))]), G))
       )
      )
     )
    )
   )
  )
  := by kernel_rfl

/-- bytes as a number -/
def val (l : List UInt8) : Nat := l.foldl (fun n b => n * 256 + b.toNat) 0

theorem val_nil : val [] = 0 := rfl
theorem val_snoc (l : List UInt8) (b : UInt8) : val (l ++ [b]) = val l * 256 + b.toNat := by
  unfold val
  rw [List.foldl_append]
  rfl
theorem val_lt : ∀ (n : Nat) (l : List UInt8), l.length = n → val l < 256 ^ n
  | 0, l, h => by
    have : l = [] := List.length_eq_zero_iff.1 h
    subst this
    simp [val]
  | n + 1, l, h => by
    obtain ⟨r, b, rfl⟩ : ∃ r b, l = r ++ [b] := ⟨l.dropLast, l.getLast (by intro e; simp [e] at h), (List.dropLast_concat_getLast _).symm⟩
    have := val_lt n r (by simpa using h)
    have hb := b.toNat_lt
    rw [val_snoc, Nat.pow_succ]
    omega

theorem or_byte {n c : Nat} (hn : n < 2 ^ 56) (hc : c < 256) :
    IntKind.wrap .u64 ((((BitVec.ofInt 64 (IntKind.wrap .u64 ((n : Int) * 256)) ||| BitVec.ofInt 64 (IntKind.wrap .u64 (c : Int))).toNat : Nat) : Int)) = ((n * 256 + c : Nat) : Int) := by
  have e1 : IntKind.wrap .u64 ((n : Int) * 256) = ((n * 256 : Nat) : Int) := by rw [wU64]; omega
  have e2 : IntKind.wrap .u64 (c : Int) = ((c : Nat) : Int) := by rw [wU64]; omega
  rw [e1, e2, BitVec.ofInt_natCast, BitVec.ofInt_natCast, BitVec.toNat_or, BitVec.toNat_ofNat, BitVec.toNat_ofNat, Nat.mod_eq_of_lt (by omega), Nat.mod_eq_of_lt (by omega)]
  have e3 : n * 256 ||| c = n * 256 + c := by
    have := Nat.shiftLeft_add_eq_or_of_lt (i := 8) (b := c) (by omega) n
    rw [Nat.shiftLeft_eq, show (2 : Nat) ^ 8 = 256 from rfl] at this
    omega
  rw [e3, wU64]
  omega

theorem out59_inj {G : List Ent} : ∀ x y, out59 G x = out59 G y → x = y := by
  intro x y h
  simp [out59, mkT] at h
  exact h
theorem out57_inj {G : List Ent} : ∀ x y, out57 G x = out57 G y → x = y := by
  intro x y h
  simp [out57, mkT] at h
  exact h
theorem outN_inj {G : List Ent} : ∀ x y, outN G x = outN G y → x = y := by
  intro x y h
  simp [outN] at h
  exact Prod.ext h.1 h.2

attribute [local irreducible] fnS loS

theorem val_take {l : List UInt8} {i : Nat} (h : i < l.length) : val (l.take (i + 1)) = val (l.take i) * 256 + l[i].toNat := by
  rw [List.take_succ_eq_append_getElem h, val_snoc]

theorem val_small {l : List UInt8} (h : l.length ≤ 7) : val l < 2 ^ 56 := by
  have h1 := val_lt l.length l rfl
  have h2 : (256 : Nat) ^ l.length ≤ 256 ^ 7 := Nat.pow_le_pow_right (by omega) h
  have h3 : (256 : Nat) ^ 7 = 2 ^ 56 := by decide
  omega

theorem loop59 {k : LK} {l : List UInt8} {G : List Ent} (hl : l.length ≤ 8) :
    LoopTo TT t53.runs (HSa 59) lp59 (inv59 k (bRow l) l.length 0 G 0) (out59 G (val l)) := by
  have key := LoopTo.count (T := TT) (orc := t53) (H := HSa 59) (lo := noLo) (b := lp59) (LoOk2.no _) (N := l.length) (inv := fun i => inv59 k (bRow l) l.length (val (l.take i)) G i) (ex := .exit 1) (s := (out59 G (val l)).2)
    (fun i hi => ?_) ?_ (by simp) l.length 0 (by omega)
  · exact key
  · show (rk59 k (bRow l) l.length (val (l.take i)) G i).run = _
    rw [← Tr.ev_run, rk59_eq]
    have hg := bRow_get hi
    have hs : val (l.take i) < 2 ^ 56 := val_small (by simp; omega)
    have hw : IntKind.wrap .i64 ((i : Int) + 1) = ((i + 1 : Nat) : Int) := by rw [IntKind.wrap_i64]; omega
    (repeat first
    | ((with_reducible refine aT ?_ ?_); · first | with_reducible rfl | with_reducible assumption | (simp only [Bool.and_eq_true, Bool.and_eq_false_iff, Bool.or_eq_true, Bool.true_and, Bool.and_true, decide_eq_true_eq, decide_eq_false_iff_not, Bool.not_eq_true', Bool.not_eq_false', beq_iff_eq, beq_eq_false_iff_ne, bne_iff_ne, bne_eq_false_iff_eq, ne_eq, fits_iff, whole_iff, List.length_append, List.length_map, List.length_cons, List.length_nil, List.length_take, List.length_drop, bRow_length, tRow_length, List.nil_append, Nat.zero_add, Nat.add_zero, Int.toNat_natCast, and_self, and_true, true_and, true_or, or_true, false_or, or_false, not_true_eq_false, not_false_eq_true] <;> omega))
    | ((with_reducible refine aF ?_ ?_); · first | with_reducible rfl | with_reducible assumption | (simp only [Bool.and_eq_true, Bool.and_eq_false_iff, Bool.or_eq_true, Bool.true_and, Bool.and_true, decide_eq_true_eq, decide_eq_false_iff_not, Bool.not_eq_true', Bool.not_eq_false', beq_iff_eq, beq_eq_false_iff_ne, bne_iff_ne, bne_eq_false_iff_eq, ne_eq, fits_iff, whole_iff, List.length_append, List.length_map, List.length_cons, List.length_nil, List.length_take, List.length_drop, bRow_length, tRow_length, List.nil_append, Nat.zero_add, Nat.add_zero, Int.toNat_natCast, and_self, and_true, true_and, true_or, or_true, false_or, or_false, not_true_eq_false, not_false_eq_true] <;> omega))
    | ((with_reducible apply gStep); · first | exact rfl | (rw [Int.toNat_natCast]; exact hg)))
    rw [or_byte hs (l[i]).toNat_lt, hw, ← val_take hi]
    rfl
  · show (rk59 k (bRow l) l.length (val (l.take l.length)) G l.length).run = _
    rw [← Tr.ev_run, rk59_eq]
    refine aF (by first | with_reducible rfl | with_reducible assumption | (simp only [Bool.and_eq_true, Bool.and_eq_false_iff, Bool.or_eq_true, Bool.true_and, Bool.and_true, decide_eq_true_eq, decide_eq_false_iff_not, Bool.not_eq_true', Bool.not_eq_false', beq_iff_eq, beq_eq_false_iff_ne, bne_iff_ne, bne_eq_false_iff_eq, ne_eq, fits_iff, whole_iff, List.length_append, List.length_map, List.length_cons, List.length_nil, List.length_take, List.length_drop, bRow_length, tRow_length, List.nil_append, Nat.zero_add, Nat.add_zero, Int.toNat_natCast, and_self, and_true, true_and, true_or, or_true, false_or, or_false, not_true_eq_false, not_false_eq_true] <;> omega)) ?_
    rw [List.take_length]
    rfl

theorem loop57 {k : LK} {l : List UInt8} {at' w : Nat} {G : List Ent} (hw : w ≤ 8) (hl : at' + w ≤ l.length) (hm : l.length ≤ maxLen) :
    LoopTo TT tNone.runs (HSa 57) lp57 (inv57 k (bRow l) at' w 0 G 0) (out57 G (val ((l.drop at').take w))) := by
  have key := LoopTo.count (T := TT) (orc := tNone) (H := HSa 57) (lo := noLo) (b := lp57) (LoOk2.no _) (N := w) (inv := fun i => inv57 k (bRow l) at' w (val ((l.drop at').take i)) G i) (ex := .exit 0) (s := (out57 G (val ((l.drop at').take w))).2)
    (fun i hi => ?_) ?_ (by simp) w 0 (by omega)
  · exact key
  · show (rk57 k (bRow l) at' w (val ((l.drop at').take i)) G i).run = _
    rw [← Tr.ev_run, rk57_eq]
    unfold maxLen at hm
    have hia : at' + i < l.length := by omega
    have hg := bRow_get hia
    have hs : val ((l.drop at').take i) < 2 ^ 56 := val_small (by simp; omega)
    have hw1 : IntKind.wrap .i64 ((i : Int) + 1) = ((i + 1 : Nat) : Int) := by rw [IntKind.wrap_i64]; omega
    have hw2 : IntKind.wrap .i64 ((at' : Int) + i) = ((at' + i : Nat) : Int) := by rw [IntKind.wrap_i64]; omega
    have hv : IntKind.wrap .u64 (IntKind.wrap .u64 ((val ((l.drop at').take i) : Int) * 256) + IntKind.wrap .u64 ((l[at' + i].toNat : Nat) : Int)) = ((val ((l.drop at').take (i + 1)) : Nat) : Int) := by
      have hi' : i < (l.drop at').length := by simp; omega
      have e : (l.drop at')[i] = l[at' + i] := by simp
      have hb := (l[at' + i]).toNat_lt
      rw [val_take hi', e, wU64, wU64, wU64]
      omega
    rw [hw2]
    (repeat first
    | ((with_reducible refine aT ?_ ?_); · first | with_reducible rfl | with_reducible assumption | (simp only [Bool.and_eq_true, Bool.and_eq_false_iff, Bool.or_eq_true, Bool.true_and, Bool.and_true, decide_eq_true_eq, decide_eq_false_iff_not, Bool.not_eq_true', Bool.not_eq_false', beq_iff_eq, beq_eq_false_iff_ne, bne_iff_ne, bne_eq_false_iff_eq, ne_eq, fits_iff, whole_iff, List.length_append, List.length_map, List.length_cons, List.length_nil, List.length_take, List.length_drop, bRow_length, tRow_length, List.nil_append, Nat.zero_add, Nat.add_zero, Int.toNat_natCast, and_self, and_true, true_and, true_or, or_true, false_or, or_false, not_true_eq_false, not_false_eq_true] <;> omega))
    | ((with_reducible refine aF ?_ ?_); · first | with_reducible rfl | with_reducible assumption | (simp only [Bool.and_eq_true, Bool.and_eq_false_iff, Bool.or_eq_true, Bool.true_and, Bool.and_true, decide_eq_true_eq, decide_eq_false_iff_not, Bool.not_eq_true', Bool.not_eq_false', beq_iff_eq, beq_eq_false_iff_ne, bne_iff_ne, bne_eq_false_iff_eq, ne_eq, fits_iff, whole_iff, List.length_append, List.length_map, List.length_cons, List.length_nil, List.length_take, List.length_drop, bRow_length, tRow_length, List.nil_append, Nat.zero_add, Nat.add_zero, Int.toNat_natCast, and_self, and_true, true_and, true_or, or_true, false_or, or_false, not_true_eq_false, not_false_eq_true] <;> omega))
    | ((with_reducible apply gStep); · first | exact rfl | (rw [Int.toNat_natCast]; exact hg)))
    rw [hv, hw1]
    rfl
  · show (rk57 k (bRow l) at' w (val ((l.drop at').take w)) G w).run = _
    rw [← Tr.ev_run, rk57_eq]
    refine aF (by first | with_reducible rfl | with_reducible assumption | (simp only [Bool.and_eq_true, Bool.and_eq_false_iff, Bool.or_eq_true, Bool.true_and, Bool.and_true, decide_eq_true_eq, decide_eq_false_iff_not, Bool.not_eq_true', Bool.not_eq_false', beq_iff_eq, beq_eq_false_iff_ne, bne_iff_ne, bne_eq_false_iff_eq, ne_eq, fits_iff, whole_iff, List.length_append, List.length_map, List.length_cons, List.length_nil, List.length_take, List.length_drop, bRow_length, tRow_length, List.nil_append, Nat.zero_add, Nat.add_zero, Int.toNat_natCast, and_self, and_true, true_and, true_or, or_true, false_or, or_false, not_true_eq_false, not_false_eq_true] <;> omega)) ?_
    rfl

/-- what Get answers -/
def getN (l : List UInt8) (at' w : Int) : Int × Int :=
  if 1 ≤ w ∧ w ≤ 8 ∧ 0 ≤ at' then (if at' + w ≤ l.length then (((val ((l.drop at'.toNat).take w.toNat) : Nat) : Int), 0) else (0, 7)) else (0, 2)

set_option maxHeartbeats 2000000 in
theorem R59_run {k : LK} {l : List UInt8} {at' w : Int} {G : List Ent} (hm : l.length ≤ maxLen) (ha : at' ≤ 4611686018427387904) : R59 [.dat (.list k 1 (bRow l)), .dat (.int .i64 at'), .dat (.int .i64 w)] G = some (outN G (getN l at' w)) := by
  show (f59t k (bRow l) at' w G).run = _
  rw [← Tr.ev_run, f59t_eq]
  unfold maxLen at hm
  by_cases a1 : 1 ≤ w
  case neg => rw [show getN l at' w = (0, 2) from if_neg (by omega)]; (repeat first
    | ((with_reducible refine aT ?_ ?_); · first | with_reducible rfl | with_reducible assumption | (simp only [Bool.and_eq_true, Bool.and_eq_false_iff, Bool.or_eq_true, Bool.true_and, Bool.and_true, decide_eq_true_eq, decide_eq_false_iff_not, Bool.not_eq_true', Bool.not_eq_false', beq_iff_eq, beq_eq_false_iff_ne, bne_iff_ne, bne_eq_false_iff_eq, ne_eq, fits_iff, whole_iff, List.length_append, List.length_map, List.length_cons, List.length_nil, List.length_take, List.length_drop, bRow_length, tRow_length, List.nil_append, Nat.zero_add, Nat.add_zero, Int.toNat_natCast, and_self, and_true, true_and, true_or, or_true, false_or, or_false, not_true_eq_false, not_false_eq_true] <;> omega))
    | ((with_reducible refine aF ?_ ?_); · first | with_reducible rfl | with_reducible assumption | (simp only [Bool.and_eq_true, Bool.and_eq_false_iff, Bool.or_eq_true, Bool.true_and, Bool.and_true, decide_eq_true_eq, decide_eq_false_iff_not, Bool.not_eq_true', Bool.not_eq_false', beq_iff_eq, beq_eq_false_iff_ne, bne_iff_ne, bne_eq_false_iff_eq, ne_eq, fits_iff, whole_iff, List.length_append, List.length_map, List.length_cons, List.length_nil, List.length_take, List.length_drop, bRow_length, tRow_length, List.nil_append, Nat.zero_add, Nat.add_zero, Int.toNat_natCast, and_self, and_true, true_and, true_or, or_true, false_or, or_false, not_true_eq_false, not_false_eq_true] <;> omega))
    | ((with_reducible apply gStep); · first | exact rfl)); rfl
  by_cases a2 : w ≤ 8
  case neg => rw [show getN l at' w = (0, 2) from if_neg (by omega)]; (repeat first
    | ((with_reducible refine aT ?_ ?_); · first | with_reducible rfl | with_reducible assumption | (simp only [Bool.and_eq_true, Bool.and_eq_false_iff, Bool.or_eq_true, Bool.true_and, Bool.and_true, decide_eq_true_eq, decide_eq_false_iff_not, Bool.not_eq_true', Bool.not_eq_false', beq_iff_eq, beq_eq_false_iff_ne, bne_iff_ne, bne_eq_false_iff_eq, ne_eq, fits_iff, whole_iff, List.length_append, List.length_map, List.length_cons, List.length_nil, List.length_take, List.length_drop, bRow_length, tRow_length, List.nil_append, Nat.zero_add, Nat.add_zero, Int.toNat_natCast, and_self, and_true, true_and, true_or, or_true, false_or, or_false, not_true_eq_false, not_false_eq_true] <;> omega))
    | ((with_reducible refine aF ?_ ?_); · first | with_reducible rfl | with_reducible assumption | (simp only [Bool.and_eq_true, Bool.and_eq_false_iff, Bool.or_eq_true, Bool.true_and, Bool.and_true, decide_eq_true_eq, decide_eq_false_iff_not, Bool.not_eq_true', Bool.not_eq_false', beq_iff_eq, beq_eq_false_iff_ne, bne_iff_ne, bne_eq_false_iff_eq, ne_eq, fits_iff, whole_iff, List.length_append, List.length_map, List.length_cons, List.length_nil, List.length_take, List.length_drop, bRow_length, tRow_length, List.nil_append, Nat.zero_add, Nat.add_zero, Int.toNat_natCast, and_self, and_true, true_and, true_or, or_true, false_or, or_false, not_true_eq_false, not_false_eq_true] <;> omega))
    | ((with_reducible apply gStep); · first | exact rfl)); rfl
  by_cases a3 : 0 ≤ at'
  case neg => rw [show getN l at' w = (0, 2) from if_neg (by omega)]; (repeat first
    | ((with_reducible refine aT ?_ ?_); · first | with_reducible rfl | with_reducible assumption | (simp only [Bool.and_eq_true, Bool.and_eq_false_iff, Bool.or_eq_true, Bool.true_and, Bool.and_true, decide_eq_true_eq, decide_eq_false_iff_not, Bool.not_eq_true', Bool.not_eq_false', beq_iff_eq, beq_eq_false_iff_ne, bne_iff_ne, bne_eq_false_iff_eq, ne_eq, fits_iff, whole_iff, List.length_append, List.length_map, List.length_cons, List.length_nil, List.length_take, List.length_drop, bRow_length, tRow_length, List.nil_append, Nat.zero_add, Nat.add_zero, Int.toNat_natCast, and_self, and_true, true_and, true_or, or_true, false_or, or_false, not_true_eq_false, not_false_eq_true] <;> omega))
    | ((with_reducible refine aF ?_ ?_); · first | with_reducible rfl | with_reducible assumption | (simp only [Bool.and_eq_true, Bool.and_eq_false_iff, Bool.or_eq_true, Bool.true_and, Bool.and_true, decide_eq_true_eq, decide_eq_false_iff_not, Bool.not_eq_true', Bool.not_eq_false', beq_iff_eq, beq_eq_false_iff_ne, bne_iff_ne, bne_eq_false_iff_eq, ne_eq, fits_iff, whole_iff, List.length_append, List.length_map, List.length_cons, List.length_nil, List.length_take, List.length_drop, bRow_length, tRow_length, List.nil_append, Nat.zero_add, Nat.add_zero, Int.toNat_natCast, and_self, and_true, true_and, true_or, or_true, false_or, or_false, not_true_eq_false, not_false_eq_true] <;> omega))
    | ((with_reducible apply gStep); · first | exact rfl)); rfl
  by_cases a4 : at' ≤ l.length
  case neg => rw [show getN l at' w = (0, 7) from (if_pos ⟨a1, a2, a3⟩).trans (if_neg (by omega))]; (repeat first
    | ((with_reducible refine aT ?_ ?_); · first | with_reducible rfl | with_reducible assumption | (simp only [Bool.and_eq_true, Bool.and_eq_false_iff, Bool.or_eq_true, Bool.true_and, Bool.and_true, decide_eq_true_eq, decide_eq_false_iff_not, Bool.not_eq_true', Bool.not_eq_false', beq_iff_eq, beq_eq_false_iff_ne, bne_iff_ne, bne_eq_false_iff_eq, ne_eq, fits_iff, whole_iff, List.length_append, List.length_map, List.length_cons, List.length_nil, List.length_take, List.length_drop, bRow_length, tRow_length, List.nil_append, Nat.zero_add, Nat.add_zero, Int.toNat_natCast, and_self, and_true, true_and, true_or, or_true, false_or, or_false, not_true_eq_false, not_false_eq_true] <;> omega))
    | ((with_reducible refine aF ?_ ?_); · first | with_reducible rfl | with_reducible assumption | (simp only [Bool.and_eq_true, Bool.and_eq_false_iff, Bool.or_eq_true, Bool.true_and, Bool.and_true, decide_eq_true_eq, decide_eq_false_iff_not, Bool.not_eq_true', Bool.not_eq_false', beq_iff_eq, beq_eq_false_iff_ne, bne_iff_ne, bne_eq_false_iff_eq, ne_eq, fits_iff, whole_iff, List.length_append, List.length_map, List.length_cons, List.length_nil, List.length_take, List.length_drop, bRow_length, tRow_length, List.nil_append, Nat.zero_add, Nat.add_zero, Int.toNat_natCast, and_self, and_true, true_and, true_or, or_true, false_or, or_false, not_true_eq_false, not_false_eq_true] <;> omega))
    | ((with_reducible apply gStep); · first | exact rfl)); rfl
  have hw1 : IntKind.wrap .i64 ((l.length : Int) - at') = (l.length : Int) - at' := IntWalk.i64_in _ (by omega)
  have hw2 : IntKind.wrap .i64 (at' + w) = at' + w := IntWalk.i64_in _ (by omega)
  simp only [bRow_length, hw1, hw2]
  by_cases a5 : at' + w ≤ l.length
  case neg => rw [show getN l at' w = (0, 7) from (if_pos ⟨a1, a2, a3⟩).trans (if_neg (by omega))]; (repeat first
    | ((with_reducible refine aT ?_ ?_); · first | with_reducible rfl | with_reducible assumption | (simp only [Bool.and_eq_true, Bool.and_eq_false_iff, Bool.or_eq_true, Bool.true_and, Bool.and_true, decide_eq_true_eq, decide_eq_false_iff_not, Bool.not_eq_true', Bool.not_eq_false', beq_iff_eq, beq_eq_false_iff_ne, bne_iff_ne, bne_eq_false_iff_eq, ne_eq, fits_iff, whole_iff, List.length_append, List.length_map, List.length_cons, List.length_nil, List.length_take, List.length_drop, bRow_length, tRow_length, List.nil_append, Nat.zero_add, Nat.add_zero, Int.toNat_natCast, and_self, and_true, true_and, true_or, or_true, false_or, or_false, not_true_eq_false, not_false_eq_true] <;> omega))
    | ((with_reducible refine aF ?_ ?_); · first | with_reducible rfl | with_reducible assumption | (simp only [Bool.and_eq_true, Bool.and_eq_false_iff, Bool.or_eq_true, Bool.true_and, Bool.and_true, decide_eq_true_eq, decide_eq_false_iff_not, Bool.not_eq_true', Bool.not_eq_false', beq_iff_eq, beq_eq_false_iff_ne, bne_iff_ne, bne_eq_false_iff_eq, ne_eq, fits_iff, whole_iff, List.length_append, List.length_map, List.length_cons, List.length_nil, List.length_take, List.length_drop, bRow_length, tRow_length, List.nil_append, Nat.zero_add, Nat.add_zero, Int.toNat_natCast, and_self, and_true, true_and, true_or, or_true, false_or, or_false, not_true_eq_false, not_false_eq_true] <;> omega))
    | ((with_reducible apply gStep); · first | exact rfl)); rfl
  rw [show getN l at' w = (((val ((l.drop at'.toNat).take w.toNat) : Nat) : Int), 0) from (if_pos ⟨a1, a2, a3⟩).trans (if_pos a5)]
  have e : (at' + w).toNat - at'.toNat = w.toNat := by omega
  simp only [bRow_drop, bRow_take, bRow_length, e]
  (repeat first
    | ((with_reducible refine aT ?_ ?_); · first | with_reducible rfl | with_reducible assumption | (simp only [Bool.and_eq_true, Bool.and_eq_false_iff, Bool.or_eq_true, Bool.true_and, Bool.and_true, decide_eq_true_eq, decide_eq_false_iff_not, Bool.not_eq_true', Bool.not_eq_false', beq_iff_eq, beq_eq_false_iff_ne, bne_iff_ne, bne_eq_false_iff_eq, ne_eq, fits_iff, whole_iff, List.length_append, List.length_map, List.length_cons, List.length_nil, List.length_take, List.length_drop, bRow_length, tRow_length, List.nil_append, Nat.zero_add, Nat.add_zero, Int.toNat_natCast, and_self, and_true, true_and, true_or, or_true, false_or, or_false, not_true_eq_false, not_false_eq_true, Bool.or_true] <;> omega))
    | ((with_reducible refine aF ?_ ?_); · first | with_reducible rfl | with_reducible assumption | (simp only [Bool.and_eq_true, Bool.and_eq_false_iff, Bool.or_eq_true, Bool.true_and, Bool.and_true, decide_eq_true_eq, decide_eq_false_iff_not, Bool.not_eq_true', Bool.not_eq_false', beq_iff_eq, beq_eq_false_iff_ne, bne_iff_ne, bne_eq_false_iff_eq, ne_eq, fits_iff, whole_iff, List.length_append, List.length_map, List.length_cons, List.length_nil, List.length_take, List.length_drop, bRow_length, tRow_length, List.nil_append, Nat.zero_add, Nat.add_zero, Int.toNat_natCast, and_self, and_true, true_and, true_or, or_true, false_or, or_false, not_true_eq_false, not_false_eq_true, Bool.or_true] <;> omega))
    | ((with_reducible apply gStep); · first | exact rfl | (exact loS_eq out59_inj (loop59 (by simp; omega)))))
  rfl

set_option maxHeartbeats 2000000 in
theorem R57_run {k : LK} {l : List UInt8} {at' w : Int} {G : List Ent} (hm : l.length ≤ maxLen) (ha : at' ≤ 4611686018427387904) : R57 [.dat (.list k 1 (bRow l)), .dat (.int .i64 at'), .dat (.int .i64 w)] G = some (outN G (getN l at' w)) := by
  show (f57t k (bRow l) at' w G).run = _
  rw [← Tr.ev_run, f57t_eq]
  have hm' := hm
  unfold maxLen at hm
  by_cases a1 : 1 ≤ w
  case neg => rw [show getN l at' w = (0, 2) from if_neg (by omega)]; (repeat first
    | ((with_reducible refine aT ?_ ?_); · first | with_reducible rfl | with_reducible assumption | (simp only [Bool.and_eq_true, Bool.and_eq_false_iff, Bool.or_eq_true, Bool.true_and, Bool.and_true, decide_eq_true_eq, decide_eq_false_iff_not, Bool.not_eq_true', Bool.not_eq_false', beq_iff_eq, beq_eq_false_iff_ne, bne_iff_ne, bne_eq_false_iff_eq, ne_eq, fits_iff, whole_iff, List.length_append, List.length_map, List.length_cons, List.length_nil, List.length_take, List.length_drop, bRow_length, tRow_length, List.nil_append, Nat.zero_add, Nat.add_zero, Int.toNat_natCast, and_self, and_true, true_and, true_or, or_true, false_or, or_false, not_true_eq_false, not_false_eq_true] <;> omega))
    | ((with_reducible refine aF ?_ ?_); · first | with_reducible rfl | with_reducible assumption | (simp only [Bool.and_eq_true, Bool.and_eq_false_iff, Bool.or_eq_true, Bool.true_and, Bool.and_true, decide_eq_true_eq, decide_eq_false_iff_not, Bool.not_eq_true', Bool.not_eq_false', beq_iff_eq, beq_eq_false_iff_ne, bne_iff_ne, bne_eq_false_iff_eq, ne_eq, fits_iff, whole_iff, List.length_append, List.length_map, List.length_cons, List.length_nil, List.length_take, List.length_drop, bRow_length, tRow_length, List.nil_append, Nat.zero_add, Nat.add_zero, Int.toNat_natCast, and_self, and_true, true_and, true_or, or_true, false_or, or_false, not_true_eq_false, not_false_eq_true] <;> omega))
    | ((with_reducible apply gStep); · first | exact rfl)); rfl
  by_cases a2 : w ≤ 8
  case neg => rw [show getN l at' w = (0, 2) from if_neg (by omega)]; (repeat first
    | ((with_reducible refine aT ?_ ?_); · first | with_reducible rfl | with_reducible assumption | (simp only [Bool.and_eq_true, Bool.and_eq_false_iff, Bool.or_eq_true, Bool.true_and, Bool.and_true, decide_eq_true_eq, decide_eq_false_iff_not, Bool.not_eq_true', Bool.not_eq_false', beq_iff_eq, beq_eq_false_iff_ne, bne_iff_ne, bne_eq_false_iff_eq, ne_eq, fits_iff, whole_iff, List.length_append, List.length_map, List.length_cons, List.length_nil, List.length_take, List.length_drop, bRow_length, tRow_length, List.nil_append, Nat.zero_add, Nat.add_zero, Int.toNat_natCast, and_self, and_true, true_and, true_or, or_true, false_or, or_false, not_true_eq_false, not_false_eq_true] <;> omega))
    | ((with_reducible refine aF ?_ ?_); · first | with_reducible rfl | with_reducible assumption | (simp only [Bool.and_eq_true, Bool.and_eq_false_iff, Bool.or_eq_true, Bool.true_and, Bool.and_true, decide_eq_true_eq, decide_eq_false_iff_not, Bool.not_eq_true', Bool.not_eq_false', beq_iff_eq, beq_eq_false_iff_ne, bne_iff_ne, bne_eq_false_iff_eq, ne_eq, fits_iff, whole_iff, List.length_append, List.length_map, List.length_cons, List.length_nil, List.length_take, List.length_drop, bRow_length, tRow_length, List.nil_append, Nat.zero_add, Nat.add_zero, Int.toNat_natCast, and_self, and_true, true_and, true_or, or_true, false_or, or_false, not_true_eq_false, not_false_eq_true] <;> omega))
    | ((with_reducible apply gStep); · first | exact rfl)); rfl
  by_cases a3 : 0 ≤ at'
  case neg => rw [show getN l at' w = (0, 2) from if_neg (by omega)]; (repeat first
    | ((with_reducible refine aT ?_ ?_); · first | with_reducible rfl | with_reducible assumption | (simp only [Bool.and_eq_true, Bool.and_eq_false_iff, Bool.or_eq_true, Bool.true_and, Bool.and_true, decide_eq_true_eq, decide_eq_false_iff_not, Bool.not_eq_true', Bool.not_eq_false', beq_iff_eq, beq_eq_false_iff_ne, bne_iff_ne, bne_eq_false_iff_eq, ne_eq, fits_iff, whole_iff, List.length_append, List.length_map, List.length_cons, List.length_nil, List.length_take, List.length_drop, bRow_length, tRow_length, List.nil_append, Nat.zero_add, Nat.add_zero, Int.toNat_natCast, and_self, and_true, true_and, true_or, or_true, false_or, or_false, not_true_eq_false, not_false_eq_true] <;> omega))
    | ((with_reducible refine aF ?_ ?_); · first | with_reducible rfl | with_reducible assumption | (simp only [Bool.and_eq_true, Bool.and_eq_false_iff, Bool.or_eq_true, Bool.true_and, Bool.and_true, decide_eq_true_eq, decide_eq_false_iff_not, Bool.not_eq_true', Bool.not_eq_false', beq_iff_eq, beq_eq_false_iff_ne, bne_iff_ne, bne_eq_false_iff_eq, ne_eq, fits_iff, whole_iff, List.length_append, List.length_map, List.length_cons, List.length_nil, List.length_take, List.length_drop, bRow_length, tRow_length, List.nil_append, Nat.zero_add, Nat.add_zero, Int.toNat_natCast, and_self, and_true, true_and, true_or, or_true, false_or, or_false, not_true_eq_false, not_false_eq_true] <;> omega))
    | ((with_reducible apply gStep); · first | exact rfl)); rfl
  by_cases a4 : at' ≤ l.length
  case neg => rw [show getN l at' w = (0, 7) from (if_pos ⟨a1, a2, a3⟩).trans (if_neg (by omega))]; (repeat first
    | ((with_reducible refine aT ?_ ?_); · first | with_reducible rfl | with_reducible assumption | (simp only [Bool.and_eq_true, Bool.and_eq_false_iff, Bool.or_eq_true, Bool.true_and, Bool.and_true, decide_eq_true_eq, decide_eq_false_iff_not, Bool.not_eq_true', Bool.not_eq_false', beq_iff_eq, beq_eq_false_iff_ne, bne_iff_ne, bne_eq_false_iff_eq, ne_eq, fits_iff, whole_iff, List.length_append, List.length_map, List.length_cons, List.length_nil, List.length_take, List.length_drop, bRow_length, tRow_length, List.nil_append, Nat.zero_add, Nat.add_zero, Int.toNat_natCast, and_self, and_true, true_and, true_or, or_true, false_or, or_false, not_true_eq_false, not_false_eq_true] <;> omega))
    | ((with_reducible refine aF ?_ ?_); · first | with_reducible rfl | with_reducible assumption | (simp only [Bool.and_eq_true, Bool.and_eq_false_iff, Bool.or_eq_true, Bool.true_and, Bool.and_true, decide_eq_true_eq, decide_eq_false_iff_not, Bool.not_eq_true', Bool.not_eq_false', beq_iff_eq, beq_eq_false_iff_ne, bne_iff_ne, bne_eq_false_iff_eq, ne_eq, fits_iff, whole_iff, List.length_append, List.length_map, List.length_cons, List.length_nil, List.length_take, List.length_drop, bRow_length, tRow_length, List.nil_append, Nat.zero_add, Nat.add_zero, Int.toNat_natCast, and_self, and_true, true_and, true_or, or_true, false_or, or_false, not_true_eq_false, not_false_eq_true] <;> omega))
    | ((with_reducible apply gStep); · first | exact rfl)); rfl
  have hw1 : IntKind.wrap .i64 ((l.length : Int) - at') = (l.length : Int) - at' := IntWalk.i64_in _ (by omega)
  simp only [bRow_length, hw1]
  by_cases a5 : at' + w ≤ l.length
  case neg => rw [show getN l at' w = (0, 7) from (if_pos ⟨a1, a2, a3⟩).trans (if_neg (by omega))]; (repeat first
    | ((with_reducible refine aT ?_ ?_); · first | with_reducible rfl | with_reducible assumption | (simp only [Bool.and_eq_true, Bool.and_eq_false_iff, Bool.or_eq_true, Bool.true_and, Bool.and_true, decide_eq_true_eq, decide_eq_false_iff_not, Bool.not_eq_true', Bool.not_eq_false', beq_iff_eq, beq_eq_false_iff_ne, bne_iff_ne, bne_eq_false_iff_eq, ne_eq, fits_iff, whole_iff, List.length_append, List.length_map, List.length_cons, List.length_nil, List.length_take, List.length_drop, bRow_length, tRow_length, List.nil_append, Nat.zero_add, Nat.add_zero, Int.toNat_natCast, and_self, and_true, true_and, true_or, or_true, false_or, or_false, not_true_eq_false, not_false_eq_true] <;> omega))
    | ((with_reducible refine aF ?_ ?_); · first | with_reducible rfl | with_reducible assumption | (simp only [Bool.and_eq_true, Bool.and_eq_false_iff, Bool.or_eq_true, Bool.true_and, Bool.and_true, decide_eq_true_eq, decide_eq_false_iff_not, Bool.not_eq_true', Bool.not_eq_false', beq_iff_eq, beq_eq_false_iff_ne, bne_iff_ne, bne_eq_false_iff_eq, ne_eq, fits_iff, whole_iff, List.length_append, List.length_map, List.length_cons, List.length_nil, List.length_take, List.length_drop, bRow_length, tRow_length, List.nil_append, Nat.zero_add, Nat.add_zero, Int.toNat_natCast, and_self, and_true, true_and, true_or, or_true, false_or, or_false, not_true_eq_false, not_false_eq_true] <;> omega))
    | ((with_reducible apply gStep); · first | exact rfl)); rfl
  rw [show getN l at' w = (((val ((l.drop at'.toNat).take w.toNat) : Nat) : Int), 0) from (if_pos ⟨a1, a2, a3⟩).trans (if_pos a5)]
  obtain ⟨A, rfl⟩ : ∃ A : Nat, at' = A := ⟨at'.toNat, by omega⟩
  obtain ⟨W, rfl⟩ : ∃ W : Nat, w = W := ⟨w.toNat, by omega⟩
  (repeat first
    | ((with_reducible refine aT ?_ ?_); · first | with_reducible rfl | with_reducible assumption | (simp only [Bool.and_eq_true, Bool.and_eq_false_iff, Bool.or_eq_true, Bool.true_and, Bool.and_true, decide_eq_true_eq, decide_eq_false_iff_not, Bool.not_eq_true', Bool.not_eq_false', beq_iff_eq, beq_eq_false_iff_ne, bne_iff_ne, bne_eq_false_iff_eq, ne_eq, fits_iff, whole_iff, List.length_append, List.length_map, List.length_cons, List.length_nil, List.length_take, List.length_drop, bRow_length, tRow_length, List.nil_append, Nat.zero_add, Nat.add_zero, Int.toNat_natCast, and_self, and_true, true_and, true_or, or_true, false_or, or_false, not_true_eq_false, not_false_eq_true] <;> omega))
    | ((with_reducible refine aF ?_ ?_); · first | with_reducible rfl | with_reducible assumption | (simp only [Bool.and_eq_true, Bool.and_eq_false_iff, Bool.or_eq_true, Bool.true_and, Bool.and_true, decide_eq_true_eq, decide_eq_false_iff_not, Bool.not_eq_true', Bool.not_eq_false', beq_iff_eq, beq_eq_false_iff_ne, bne_iff_ne, bne_eq_false_iff_eq, ne_eq, fits_iff, whole_iff, List.length_append, List.length_map, List.length_cons, List.length_nil, List.length_take, List.length_drop, bRow_length, tRow_length, List.nil_append, Nat.zero_add, Nat.add_zero, Int.toNat_natCast, and_self, and_true, true_and, true_or, or_true, false_or, or_false, not_true_eq_false, not_false_eq_true] <;> omega))
    | ((with_reducible apply gStep); · first | exact rfl | (exact loS_eq out57_inj (loop57 (by omega) (by omega) hm'))))
  rfl
end Go.Eng
end

/- The reader and the taker. -/
section
namespace Go.Eng
open Go
set_option maxRecDepth 100000
set_option linter.unusedSimpArgs false

theorem m43r_eq (xs : Row) (e : Int) (wr : Bool) (w : Int) : (m43r xs e wr w).ev =
  (rAsk (e != (0 : Int))
   (some ((AV.dat (D.int IntKind.i64 (0 : Int))), [(Ent.obj [(AV.rowc Mode.excl 1 xs), (AV.dat (D.int IntKind.i64 e))]), (Ent.obj [(AV.ptr (Ref.glob 0) 0), (AV.dat (D.bool wr))])]))
   (rGet (fnS (fun (p : Int × Int) => ((AV.tup [(AV.dat (D.int IntKind.u64 p.1)), (AV.dat (D.int IntKind.i64 p.2))]), [(Ent.obj [(AV.rowc Mode.own 1 xs), (AV.dat (D.int IntKind.i64 e))]), (Ent.obj [(AV.ptr (Ref.glob 0) 0), (AV.dat (D.bool wr))])])) (R59 [(AV.dat (D.list LK.any 1 (List.take (List.length xs) (List.drop 0 xs)))), (AV.dat (D.int IntKind.i64 (0 : Int))), (AV.dat (D.int IntKind.i64 w))] [(Ent.obj [(AV.rowc Mode.own 1 xs), (AV.dat (D.int IntKind.i64 e))]), (Ent.obj [(AV.ptr (Ref.glob 0) 0), (AV.dat (D.bool wr))])])) fun x1 =>
    (rAsk (x1.2 != (0 : Int))
     (some ((AV.dat (D.int IntKind.i64 (0 : Int))), [(Ent.obj [(AV.rowc Mode.own 1 xs), (AV.dat (D.int IntKind.i64 x1.2))]), (Ent.obj [(AV.ptr (Ref.glob 0) 0), (AV.dat (D.bool wr))])]))
     (rAsk ((decide ((0 : Int) ≤ w)) && ((decide (w ≤ (((List.length xs) : Nat) : Int))) && (decide ((((List.length xs) : Nat) : Int) ≤ (((List.length xs) : Nat) : Int)))))
      (some ((AV.dat (D.int IntKind.i64 (IntKind.wrap IntKind.i64 x1.1))), [(Ent.obj [(AV.dat (D.list LK.any 1 (List.take ((Int.toNat (((List.length xs) : Nat) : Int)) - (Int.toNat w)) (List.drop (0 + (Int.toNat w)) xs)))), (AV.dat (D.int IntKind.i64 e))]), (Ent.obj [(AV.ptr (Ref.glob 0) 0), (AV.dat (D.bool wr))])]))
      none
     )
    )
   )
  )
  := by kernel_rfl
theorem m43o_eq (xs : Row) (e : Int) (wr : Bool) (w : Int) : (m43o xs e wr w).ev =
  (rAsk (e != (0 : Int))
   (some ((AV.dat (D.int IntKind.i64 (0 : Int))), [(Ent.obj [(AV.rowc Mode.own 1 xs), (AV.dat (D.int IntKind.i64 e))]), (Ent.obj [(AV.ptr (Ref.glob 0) 0), (AV.dat (D.bool wr))])]))
   (rGet (fnS (fun (p : Int × Int) => ((AV.tup [(AV.dat (D.int IntKind.u64 p.1)), (AV.dat (D.int IntKind.i64 p.2))]), [(Ent.obj [(AV.rowc Mode.own 1 xs), (AV.dat (D.int IntKind.i64 e))]), (Ent.obj [(AV.ptr (Ref.glob 0) 0), (AV.dat (D.bool wr))])])) (R59 [(AV.dat (D.list LK.any 1 (List.take (List.length xs) (List.drop 0 xs)))), (AV.dat (D.int IntKind.i64 (0 : Int))), (AV.dat (D.int IntKind.i64 w))] [(Ent.obj [(AV.rowc Mode.own 1 xs), (AV.dat (D.int IntKind.i64 e))]), (Ent.obj [(AV.ptr (Ref.glob 0) 0), (AV.dat (D.bool wr))])])) fun x1 =>
    (rAsk (x1.2 != (0 : Int))
     (some ((AV.dat (D.int IntKind.i64 (0 : Int))), [(Ent.obj [(AV.rowc Mode.own 1 xs), (AV.dat (D.int IntKind.i64 x1.2))]), (Ent.obj [(AV.ptr (Ref.glob 0) 0), (AV.dat (D.bool wr))])]))
     (rAsk ((decide ((0 : Int) ≤ w)) && ((decide (w ≤ (((List.length xs) : Nat) : Int))) && (decide ((((List.length xs) : Nat) : Int) ≤ (((List.length xs) : Nat) : Int)))))
      (some ((AV.dat (D.int IntKind.i64 (IntKind.wrap IntKind.i64 x1.1))), [(Ent.obj [(AV.dat (D.list LK.any 1 (List.take ((Int.toNat (((List.length xs) : Nat) : Int)) - (Int.toNat w)) (List.drop (0 + (Int.toNat w)) xs)))), (AV.dat (D.int IntKind.i64 e))]), (Ent.obj [(AV.ptr (Ref.glob 0) 0), (AV.dat (D.bool wr))])]))
      none
     )
    )
   )
  )
  := by kernel_rfl
theorem m43d_eq (k : LK) (xs : Row) (e : Int) (wr : Bool) (w : Int) : (m43d k xs e wr w).ev =
  (rAsk (e != (0 : Int))
   (some ((AV.dat (D.int IntKind.i64 (0 : Int))), [(Ent.obj [(AV.dat (D.list k 1 xs)), (AV.dat (D.int IntKind.i64 e))]), (Ent.obj [(AV.ptr (Ref.glob 0) 0), (AV.dat (D.bool wr))])]))
   (rGet (fnS (fun (p : Int × Int) => ((AV.tup [(AV.dat (D.int IntKind.u64 p.1)), (AV.dat (D.int IntKind.i64 p.2))]), [(Ent.obj [(AV.dat (D.list k 1 xs)), (AV.dat (D.int IntKind.i64 e))]), (Ent.obj [(AV.ptr (Ref.glob 0) 0), (AV.dat (D.bool wr))])])) (R59 [(AV.dat (D.list k 1 xs)), (AV.dat (D.int IntKind.i64 (0 : Int))), (AV.dat (D.int IntKind.i64 w))] [(Ent.obj [(AV.dat (D.list k 1 xs)), (AV.dat (D.int IntKind.i64 e))]), (Ent.obj [(AV.ptr (Ref.glob 0) 0), (AV.dat (D.bool wr))])])) fun x1 =>
    (rAsk (x1.2 != (0 : Int))
     (some ((AV.dat (D.int IntKind.i64 (0 : Int))), [(Ent.obj [(AV.dat (D.list k 1 xs)), (AV.dat (D.int IntKind.i64 x1.2))]), (Ent.obj [(AV.ptr (Ref.glob 0) 0), (AV.dat (D.bool wr))])]))
     (rAsk ((decide ((0 : Int) ≤ w)) && ((decide (w ≤ (((List.length xs) : Nat) : Int))) && (decide ((((List.length xs) : Nat) : Int) ≤ (((List.length xs) : Nat) : Int)))))
      (rAsk ((decide (k = LK.nil)) || true)
       (some ((AV.dat (D.int IntKind.i64 (IntKind.wrap IntKind.i64 x1.1))), [(Ent.obj [(AV.dat (D.list (if ((k = LK.full) ∧ ((((List.length xs) : Nat) : Int) < (((List.length xs) : Nat) : Int))) then LK.any else k) 1 (List.take ((Int.toNat (((List.length xs) : Nat) : Int)) - (Int.toNat w)) (List.drop (Int.toNat w) xs)))), (AV.dat (D.int IntKind.i64 e))]), (Ent.obj [(AV.ptr (Ref.glob 0) 0), (AV.dat (D.bool wr))])]))
       none
      )
      none
     )
    )
   )
  )
  := by kernel_rfl
theorem m45r_eq (xs : Row) (e : Int) (wr : Bool) : (m45r xs e wr).ev =
  (rAsk (e != (0 : Int))
   (some ((AV.dat (D.list LK.nil 0 ([] : Row))), [(Ent.obj [(AV.rowc Mode.excl 1 xs), (AV.dat (D.int IntKind.i64 e))]), (Ent.obj [(AV.ptr (Ref.glob 0) 0), (AV.dat (D.bool wr))])]))
   (rAsk (decide ((64 : Int) > (((List.length xs) : Nat) : Int)))
    (some ((AV.dat (D.list LK.nil 0 ([] : Row))), [(Ent.obj [(AV.rowc Mode.excl 1 xs), (AV.dat (D.int IntKind.i64 (7 : Int)))]), (Ent.obj [(AV.ptr (Ref.glob 0) 0), (AV.dat (D.bool wr))])]))
    (rAsk (true && (true && (decide ((64 : Int) ≤ (((List.length xs) : Nat) : Int)))))
     (rAsk (true && (fits (TI.mk (TK.int IntKind.u8) 1 1 [(AV.dat (D.int IntKind.u8 (0 : Int)))] true) (List.length (List.take 64 (List.drop 0 xs)))))
      (rAsk (List.isEmpty (List.take 64 (List.drop 0 xs)))
       (rAsk (true && ((decide ((64 : Int) ≤ (((List.length xs) : Nat) : Int))) && (decide ((((List.length xs) : Nat) : Int) ≤ (((List.length xs) : Nat) : Int)))))
        (some ((AV.dat (D.list LK.nil 0 ([] : Row))), [(Ent.obj [(AV.dat (D.list LK.any 1 (List.take ((Int.toNat (((List.length xs) : Nat) : Int)) - 64) (List.drop 64 xs)))), (AV.dat (D.int IntKind.i64 e))]), (Ent.obj [(AV.ptr (Ref.glob 0) 0), (AV.dat (D.bool wr))])]))
        none
       )
       (rAsk (true && ((decide ((64 : Int) ≤ (((List.length xs) : Nat) : Int))) && (decide ((((List.length xs) : Nat) : Int) ≤ (((List.length xs) : Nat) : Int)))))
        (rAsk (wholeB false 0 (List.length (List.take 64 (List.drop 0 xs))) (List.length (List.take 64 (List.drop 0 xs))))
         (some ((AV.own true 1 (List.take 64 (List.drop 0 xs))), [(Ent.obj [(AV.dat (D.list LK.any 1 (List.take ((Int.toNat (((List.length xs) : Nat) : Int)) - 64) (List.drop 64 xs)))), (AV.dat (D.int IntKind.i64 e))]), (Ent.obj [(AV.ptr (Ref.glob 0) 0), (AV.dat (D.bool wr))])]))
         (some ((AV.dat (D.list LK.any 1 (List.take (List.length (List.take 64 (List.drop 0 xs))) (List.drop 0 (List.take 64 (List.drop 0 xs)))))), [(Ent.obj [(AV.dat (D.list LK.any 1 (List.take ((Int.toNat (((List.length xs) : Nat) : Int)) - 64) (List.drop 64 xs)))), (AV.dat (D.int IntKind.i64 e))]), (Ent.obj [(AV.ptr (Ref.glob 0) 0), (AV.dat (D.bool wr))])]))
        )
        none
       )
      )
      none
     )
     none
    )
   )
  )
  := by kernel_rfl
theorem m45o_eq (xs : Row) (e : Int) (wr : Bool) : (m45o xs e wr).ev =
  (rAsk (e != (0 : Int))
   (some ((AV.dat (D.list LK.nil 0 ([] : Row))), [(Ent.obj [(AV.rowc Mode.own 1 xs), (AV.dat (D.int IntKind.i64 e))]), (Ent.obj [(AV.ptr (Ref.glob 0) 0), (AV.dat (D.bool wr))])]))
   (rAsk (decide ((64 : Int) > (((List.length xs) : Nat) : Int)))
    (some ((AV.dat (D.list LK.nil 0 ([] : Row))), [(Ent.obj [(AV.rowc Mode.own 1 xs), (AV.dat (D.int IntKind.i64 (7 : Int)))]), (Ent.obj [(AV.ptr (Ref.glob 0) 0), (AV.dat (D.bool wr))])]))
    (rAsk (true && (true && (decide ((64 : Int) ≤ (((List.length xs) : Nat) : Int)))))
     (rAsk (true && (fits (TI.mk (TK.int IntKind.u8) 1 1 [(AV.dat (D.int IntKind.u8 (0 : Int)))] true) (List.length (List.take 64 (List.drop 0 xs)))))
      (rAsk (List.isEmpty (List.take 64 (List.drop 0 xs)))
       (rAsk (true && ((decide ((64 : Int) ≤ (((List.length xs) : Nat) : Int))) && (decide ((((List.length xs) : Nat) : Int) ≤ (((List.length xs) : Nat) : Int)))))
        (some ((AV.dat (D.list LK.nil 0 ([] : Row))), [(Ent.obj [(AV.dat (D.list LK.any 1 (List.take ((Int.toNat (((List.length xs) : Nat) : Int)) - 64) (List.drop 64 xs)))), (AV.dat (D.int IntKind.i64 e))]), (Ent.obj [(AV.ptr (Ref.glob 0) 0), (AV.dat (D.bool wr))])]))
        none
       )
       (rAsk (true && ((decide ((64 : Int) ≤ (((List.length xs) : Nat) : Int))) && (decide ((((List.length xs) : Nat) : Int) ≤ (((List.length xs) : Nat) : Int)))))
        (rAsk (wholeB false 0 (List.length (List.take 64 (List.drop 0 xs))) (List.length (List.take 64 (List.drop 0 xs))))
         (some ((AV.own true 1 (List.take 64 (List.drop 0 xs))), [(Ent.obj [(AV.dat (D.list LK.any 1 (List.take ((Int.toNat (((List.length xs) : Nat) : Int)) - 64) (List.drop 64 xs)))), (AV.dat (D.int IntKind.i64 e))]), (Ent.obj [(AV.ptr (Ref.glob 0) 0), (AV.dat (D.bool wr))])]))
         (some ((AV.dat (D.list LK.any 1 (List.take (List.length (List.take 64 (List.drop 0 xs))) (List.drop 0 (List.take 64 (List.drop 0 xs)))))), [(Ent.obj [(AV.dat (D.list LK.any 1 (List.take ((Int.toNat (((List.length xs) : Nat) : Int)) - 64) (List.drop 64 xs)))), (AV.dat (D.int IntKind.i64 e))]), (Ent.obj [(AV.ptr (Ref.glob 0) 0), (AV.dat (D.bool wr))])]))
        )
        none
       )
      )
      none
     )
     none
    )
   )
  )
  := by kernel_rfl
theorem m45d_eq (k : LK) (xs : Row) (e : Int) (wr : Bool) : (m45d k xs e wr).ev =
  (rAsk (e != (0 : Int))
   (some ((AV.dat (D.list LK.nil 0 ([] : Row))), [(Ent.obj [(AV.dat (D.list k 1 xs)), (AV.dat (D.int IntKind.i64 e))]), (Ent.obj [(AV.ptr (Ref.glob 0) 0), (AV.dat (D.bool wr))])]))
   (rAsk (decide ((64 : Int) > (((List.length xs) : Nat) : Int)))
    (some ((AV.dat (D.list LK.nil 0 ([] : Row))), [(Ent.obj [(AV.dat (D.list k 1 xs)), (AV.dat (D.int IntKind.i64 (7 : Int)))]), (Ent.obj [(AV.ptr (Ref.glob 0) 0), (AV.dat (D.bool wr))])]))
    (rAsk (true && (true && (decide ((64 : Int) ≤ (((List.length xs) : Nat) : Int)))))
     (rAsk ((decide (k = LK.nil)) || true)
      (rAsk ((LK.isNil (if ((k = LK.full) ∧ ((64 : Int) < (((List.length xs) : Nat) : Int))) then LK.any else k)) || true)
       (rAsk (true && (fits (TI.mk (TK.int IntKind.u8) 1 1 [(AV.dat (D.int IntKind.u8 (0 : Int)))] true) (List.length (List.take 64 (List.drop 0 xs)))))
        (rAsk (List.isEmpty (List.take 64 (List.drop 0 xs)))
         (rAsk (true && ((decide ((64 : Int) ≤ (((List.length xs) : Nat) : Int))) && (decide ((((List.length xs) : Nat) : Int) ≤ (((List.length xs) : Nat) : Int)))))
          (rAsk ((decide (k = LK.nil)) || true)
           (some ((AV.dat (D.list LK.nil 0 ([] : Row))), [(Ent.obj [(AV.dat (D.list (if ((k = LK.full) ∧ ((((List.length xs) : Nat) : Int) < (((List.length xs) : Nat) : Int))) then LK.any else k) 1 (List.take ((Int.toNat (((List.length xs) : Nat) : Int)) - 64) (List.drop 64 xs)))), (AV.dat (D.int IntKind.i64 e))]), (Ent.obj [(AV.ptr (Ref.glob 0) 0), (AV.dat (D.bool wr))])]))
           none
          )
          none
         )
         (rAsk (true && ((decide ((64 : Int) ≤ (((List.length xs) : Nat) : Int))) && (decide ((((List.length xs) : Nat) : Int) ≤ (((List.length xs) : Nat) : Int)))))
          (rAsk ((decide (k = LK.nil)) || true)
           (rAsk (wholeB false 0 (List.length (List.take 64 (List.drop 0 xs))) (List.length (List.take 64 (List.drop 0 xs))))
            (some ((AV.own true 1 (List.take 64 (List.drop 0 xs))), [(Ent.obj [(AV.dat (D.list (if ((k = LK.full) ∧ ((((List.length xs) : Nat) : Int) < (((List.length xs) : Nat) : Int))) then LK.any else k) 1 (List.take ((Int.toNat (((List.length xs) : Nat) : Int)) - 64) (List.drop 64 xs)))), (AV.dat (D.int IntKind.i64 e))]), (Ent.obj [(AV.ptr (Ref.glob 0) 0), (AV.dat (D.bool wr))])]))
            (some ((AV.dat (D.list LK.any 1 (List.take (List.length (List.take 64 (List.drop 0 xs))) (List.drop 0 (List.take 64 (List.drop 0 xs)))))), [(Ent.obj [(AV.dat (D.list (if ((k = LK.full) ∧ ((((List.length xs) : Nat) : Int) < (((List.length xs) : Nat) : Int))) then LK.any else k) 1 (List.take ((Int.toNat (((List.length xs) : Nat) : Int)) - 64) (List.drop 64 xs)))), (AV.dat (D.int IntKind.i64 e))]), (Ent.obj [(AV.ptr (Ref.glob 0) 0), (AV.dat (D.bool wr))])]))
           )
           none
          )
          none
         )
        )
        none
       )
       none
      )
      none
     )
     none
    )
   )
  )
  := by kernel_rfl
theorem m47r_eq (xs : Row) (e : Int) (wr : Bool) : (m47r xs e wr).ev =
  (rAsk (e != (0 : Int))
   (some ((AV.dat (D.int IntKind.i64 (0 : Int))), [(Ent.obj [(AV.rowc Mode.excl 1 xs), (AV.dat (D.int IntKind.i64 e))]), (Ent.obj [(AV.ptr (Ref.glob 0) 0), (AV.dat (D.bool wr))])]))
   (some ((AV.dat (D.int IntKind.i64 (((List.length xs) : Nat) : Int))), [(Ent.obj [(AV.rowc Mode.excl 1 xs), (AV.dat (D.int IntKind.i64 e))]), (Ent.obj [(AV.ptr (Ref.glob 0) 0), (AV.dat (D.bool wr))])]))
  )
  := by kernel_rfl
theorem m47o_eq (xs : Row) (e : Int) (wr : Bool) : (m47o xs e wr).ev =
  (rAsk (e != (0 : Int))
   (some ((AV.dat (D.int IntKind.i64 (0 : Int))), [(Ent.obj [(AV.rowc Mode.own 1 xs), (AV.dat (D.int IntKind.i64 e))]), (Ent.obj [(AV.ptr (Ref.glob 0) 0), (AV.dat (D.bool wr))])]))
   (some ((AV.dat (D.int IntKind.i64 (((List.length xs) : Nat) : Int))), [(Ent.obj [(AV.rowc Mode.own 1 xs), (AV.dat (D.int IntKind.i64 e))]), (Ent.obj [(AV.ptr (Ref.glob 0) 0), (AV.dat (D.bool wr))])]))
  )
  := by kernel_rfl
theorem m47d_eq (k : LK) (xs : Row) (e : Int) (wr : Bool) : (m47d k xs e wr).ev =
  (rAsk (e != (0 : Int))
   (some ((AV.dat (D.int IntKind.i64 (0 : Int))), [(Ent.obj [(AV.dat (D.list k 1 xs)), (AV.dat (D.int IntKind.i64 e))]), (Ent.obj [(AV.ptr (Ref.glob 0) 0), (AV.dat (D.bool wr))])]))
   (some ((AV.dat (D.int IntKind.i64 (((List.length xs) : Nat) : Int))), [(Ent.obj [(AV.dat (D.list k 1 xs)), (AV.dat (D.int IntKind.i64 e))]), (Ent.obj [(AV.ptr (Ref.glob 0) 0), (AV.dat (D.bool wr))])]))
  )
  := by kernel_rfl
theorem m42_eq (kb : LK) (xs : Row) : (m42 kb xs).ev =
  (rAsk ((LK.isNil kb) || true)
   (rAsk (true && (fits (TI.mk (TK.int IntKind.u8) 1 1 [(AV.dat (D.int IntKind.u8 (0 : Int)))] true) (0 + (List.length xs))))
    (rAsk (List.isEmpty xs)
     (some ((AV.ptr (Ref.glob 0) 0), [(Ent.obj [(AV.dat (D.list LK.full 1 ([] : Row))), (AV.dat (D.int IntKind.i64 (0 : Int)))])]))
     (rAsk (wholeB false 0 (0 + (List.length xs)) (List.length (([] : Row) ++ xs)))
      (some ((AV.ptr (Ref.glob 0) 0), [(Ent.obj [(AV.rowc Mode.excl 1 (([] : Row) ++ xs)), (AV.dat (D.int IntKind.i64 (0 : Int)))])]))
      (some ((AV.ptr (Ref.glob 0) 0), [(Ent.obj [(AV.dat (D.list LK.any 1 (List.take (0 + (List.length xs)) (List.drop 0 (([] : Row) ++ xs))))), (AV.dat (D.int IntKind.i64 (0 : Int)))])]))
     )
    )
    none
   )
   none
  )
  := by kernel_rfl

/-- bytes that are left; why no more can be read -/
abbrev RS := List UInt8 × Int

def numS (w : Nat) (s : RS) : Int × RS := if s.2 ≠ 0 then (0, s) else if s.1.length < w then (0, (s.1, 7)) else (((val (s.1.take w) : Nat) : Int), (s.1.drop w, 0))
def bytesS (s : RS) : Option (List UInt8) × RS := if s.2 ≠ 0 then (none, s) else if s.1.length < 64 then (none, (s.1, 7)) else (some (s.1.take 64), (s.1.drop 64, 0))

/-- how the reader holds its bytes -/
inductive Rd (l : List UInt8) : AV → Prop
  | row : Rd l (.rowc .excl 1 (bRow l))
  | rowo : Rd l (.rowc .own 1 (bRow l))
  | dat (k : LK) : Rd l (.dat (.list k 1 (bRow l)))

theorem numS_len {w : Nat} {s : RS} : (numS w s).2.1.length ≤ s.1.length := by
  unfold numS
  split
  · exact Nat.le_refl _
  · split
    · exact Nat.le_refl _
    · simp

theorem numS_err {w : Nat} {s : RS} (h : s.2 ≠ 0) : numS w s = (0, s) := if_pos h
theorem numS_short {w : Nat} {l : List UInt8} (h : l.length < w) : numS w (l, 0) = (0, (l, 7)) := by simp [numS, h]
theorem numS_ok {w : Nat} {l : List UInt8} (h : w ≤ l.length) : numS w (l, 0) = (((val (l.take w) : Nat) : Int), (l.drop w, 0)) := by
  have : ¬ l.length < w := by omega
  simp [numS, this]

theorem out42_inj {G : List Ent} : ∀ x y, out42 G x = out42 G y → x = y := by
  intro x y h
  simp [out42, rdr'] at h
  exact h
theorem out43_inj {G : List Ent} : ∀ x y, out43 G x = out43 G y → x = y := by
  rintro ⟨x1, x2, x3⟩ ⟨y1, y2, y3⟩ h
  simp [out43, rdr'] at h
  obtain ⟨rfl, rfl, rfl⟩ := h
  rfl
theorem out45y_inj {G : List Ent} : ∀ x y, out45y G x = out45y G y → x = y := by
  rintro ⟨x1, x2, x3⟩ ⟨y1, y2, y3⟩ h
  simp [out45y, rdr'] at h
  obtain ⟨rfl, rfl, rfl⟩ := h
  rfl
theorem out45n_inj {G : List Ent} : ∀ x y, out45n G x = out45n G y → x = y := by
  rintro ⟨x2, x3⟩ ⟨y2, y3⟩ h
  simp [out45n, rdr'] at h
  obtain ⟨rfl, rfl⟩ := h
  rfl
theorem out47_inj {G : List Ent} : ∀ x y, out47 G x = out47 G y → x = y := by
  intro x y h
  simpa [out47] using h

attribute [local irreducible] fnS loS R59

theorem c42 {kb : LK} {l : List UInt8} (hl : l.length ≤ 140737488355328) : ∃ a, Rd l a ∧ R42 [.dat (.list kb 1 (bRow l))] [] = some (out42 [] a) := by
  cases l with
  | nil =>
    refine ⟨_, .dat .full, ?_⟩
    show (m42 kb (bRow [])).run = _
    rw [← Tr.ev_run, m42_eq]
    simp only [Bool.or_true, Bool.true_and]
    (repeat first
    | ((with_reducible refine aT ?_ ?_); · first | with_reducible rfl | with_reducible assumption | (simp only [Bool.and_eq_true, Bool.and_eq_false_iff, Bool.or_eq_true, Bool.true_and, Bool.and_true, decide_eq_true_eq, decide_eq_false_iff_not, Bool.not_eq_true', Bool.not_eq_false', beq_iff_eq, beq_eq_false_iff_ne, bne_iff_ne, bne_eq_false_iff_eq, ne_eq, fits_iff, whole_iff, List.length_append, List.length_map, List.length_cons, List.length_nil, List.length_take, List.length_drop, bRow_length, tRow_length, List.nil_append, Nat.zero_add, Nat.add_zero, Int.toNat_natCast, and_self, and_true, true_and, true_or, or_true, false_or, or_false, not_true_eq_false, not_false_eq_true, bRow_nil, List.isEmpty_nil] <;> omega))
    | ((with_reducible refine aF ?_ ?_); · first | with_reducible rfl | with_reducible assumption | (simp only [Bool.and_eq_true, Bool.and_eq_false_iff, Bool.or_eq_true, Bool.true_and, Bool.and_true, decide_eq_true_eq, decide_eq_false_iff_not, Bool.not_eq_true', Bool.not_eq_false', beq_iff_eq, beq_eq_false_iff_ne, bne_iff_ne, bne_eq_false_iff_eq, ne_eq, fits_iff, whole_iff, List.length_append, List.length_map, List.length_cons, List.length_nil, List.length_take, List.length_drop, bRow_length, tRow_length, List.nil_append, Nat.zero_add, Nat.add_zero, Int.toNat_natCast, and_self, and_true, true_and, true_or, or_true, false_or, or_false, not_true_eq_false, not_false_eq_true, bRow_nil, List.isEmpty_nil] <;> omega))
    | ((with_reducible apply gStep); · first | exact rfl))
    rfl
  | cons b l =>
    refine ⟨_, .row, ?_⟩
    show (m42 kb (bRow (b :: l))).run = _
    rw [← Tr.ev_run, m42_eq]
    simp only [Bool.or_true, Bool.true_and, List.nil_append, Nat.zero_add, bRow_length]
    have hl' : l.length + 1 ≤ 140737488355328 := by simpa using hl
    (repeat first
    | ((with_reducible refine aT ?_ ?_); · first | with_reducible rfl | with_reducible assumption | (simp only [Bool.and_eq_true, Bool.and_eq_false_iff, Bool.or_eq_true, Bool.true_and, Bool.and_true, decide_eq_true_eq, decide_eq_false_iff_not, Bool.not_eq_true', Bool.not_eq_false', beq_iff_eq, beq_eq_false_iff_ne, bne_iff_ne, bne_eq_false_iff_eq, ne_eq, fits_iff, whole_iff, List.length_append, List.length_map, List.length_cons, List.length_nil, List.length_take, List.length_drop, bRow_length, tRow_length, List.nil_append, Nat.zero_add, Nat.add_zero, Int.toNat_natCast, and_self, and_true, true_and, true_or, or_true, false_or, or_false, not_true_eq_false, not_false_eq_true, bRow_cons, List.isEmpty_cons, List.length_cons] <;> omega))
    | ((with_reducible refine aF ?_ ?_); · first | with_reducible rfl | with_reducible assumption | (simp only [Bool.and_eq_true, Bool.and_eq_false_iff, Bool.or_eq_true, Bool.true_and, Bool.and_true, decide_eq_true_eq, decide_eq_false_iff_not, Bool.not_eq_true', Bool.not_eq_false', beq_iff_eq, beq_eq_false_iff_ne, bne_iff_ne, bne_eq_false_iff_eq, ne_eq, fits_iff, whole_iff, List.length_append, List.length_map, List.length_cons, List.length_nil, List.length_take, List.length_drop, bRow_length, tRow_length, List.nil_append, Nat.zero_add, Nat.add_zero, Int.toNat_natCast, and_self, and_true, true_and, true_or, or_true, false_or, or_false, not_true_eq_false, not_false_eq_true, bRow_cons, List.isEmpty_cons, List.length_cons] <;> omega))
    | ((with_reducible apply gStep); · first | exact rfl))
    rfl

theorem val_small2 {l : List UInt8} (h : l.length ≤ 2) : (val l : Int) < 65536 := by
  have h1 := val_lt l.length l rfl
  have h2 : (256 : Nat) ^ l.length ≤ 256 ^ 2 := Nat.pow_le_pow_right (by omega) h
  have h3 : (256 : Nat) ^ 2 = 65536 := by decide
  omega

theorem c43 {l : List UInt8} {e : Int} {a : AV} {wr : Bool} {w : Nat} (hr : Rd l a) (hl : l.length ≤ 140737488355328) (hw : w = 1 ∨ w = 2) :
    ∃ a', Rd (numS w (l, e)).2.1 a' ∧ R43 [.ptr (.glob 1) 0, .dat (.int .i64 (w : Int))] [rdr' a e, takr' wr] = some (out43 [rdr' a e, takr' wr] ((numS w (l, e)).1, a', (numS w (l, e)).2.2)) := by
  have hm : l.length ≤ maxLen := by unfold maxLen; omega
  by_cases he : e = 0
  · subst he
    by_cases hs : l.length < w
    · rw [numS_short hs]
      have hg : getN l 0 w = (0, 7) := (if_pos (by omega)).trans (if_neg (by omega))
      have h59 : ∀ G, fnS (outN G) (R59 [.dat (.list .any 1 (bRow l)), .dat (.int .i64 0), .dat (.int .i64 (w : Int))] G) = some (0, 7) := fun G => by rw [R59_run hm (by omega), hg]; exact fnS_eq outN_inj rfl
      have h59' : ∀ k G, fnS (outN G) (R59 [.dat (.list k 1 (bRow l)), .dat (.int .i64 0), .dat (.int .i64 (w : Int))] G) = some (0, 7) := fun k G => by rw [R59_run hm (by omega), hg]; exact fnS_eq outN_inj rfl
      cases hr with
      | row =>
        refine ⟨_, .rowo, ?_⟩
        show (m43r (bRow l) 0 wr w).run = _
        rw [← Tr.ev_run, m43r_eq]
        simp only [List.drop_zero, List.take_length]
        refine aF rfl (gStep (h59 _) (aT rfl rfl))
      | rowo =>
        refine ⟨_, .rowo, ?_⟩
        show (m43o (bRow l) 0 wr w).run = _
        rw [← Tr.ev_run, m43o_eq]
        simp only [List.drop_zero, List.take_length]
        refine aF rfl (gStep (h59 _) (aT rfl rfl))
      | dat k =>
        refine ⟨_, .dat k, ?_⟩
        show (m43d k (bRow l) 0 wr w).run = _
        rw [← Tr.ev_run, m43d_eq]
        refine aF rfl (gStep (h59' k _) (aT rfl rfl))
    · rw [numS_ok (by omega)]
      have hg : getN l 0 w = (((val (l.take w) : Nat) : Int), 0) := by
        refine ((if_pos (by omega)).trans (if_pos (by omega))).trans ?_
        simp
      have h59' : ∀ k G, fnS (outN G) (R59 [.dat (.list k 1 (bRow l)), .dat (.int .i64 0), .dat (.int .i64 (w : Int))] G) = some (((val (l.take w) : Nat) : Int), 0) := fun k G => by rw [R59_run hm (by omega), hg]; exact fnS_eq outN_inj rfl
      have hv : (val (l.take w) : Int) < 65536 := val_small2 (by simp; omega)
      have hwr : IntKind.wrap .i64 ((val (l.take w) : Nat) : Int) = ((val (l.take w) : Nat) : Int) := IntWalk.i64_in _ (by omega)
      have ed : List.take (l.length - w) (List.drop w l) = l.drop w := List.take_of_length_le (by simp)
      cases hr with
      | row =>
        refine ⟨_, .dat .any, ?_⟩
        show (m43r (bRow l) 0 wr w).run = _
        rw [← Tr.ev_run, m43r_eq]
        simp only [List.drop_zero, List.take_length, bRow_length, Nat.zero_add, Int.toNat_natCast, bRow_drop, bRow_take, ed]
        refine aF rfl (gStep (h59' _ _) (aF rfl (aT (by first | with_reducible rfl | with_reducible assumption | (simp only [Bool.and_eq_true, Bool.and_eq_false_iff, Bool.or_eq_true, Bool.true_and, Bool.and_true, decide_eq_true_eq, decide_eq_false_iff_not, Bool.not_eq_true', Bool.not_eq_false', beq_iff_eq, beq_eq_false_iff_ne, bne_iff_ne, bne_eq_false_iff_eq, ne_eq, fits_iff, whole_iff, List.length_append, List.length_map, List.length_cons, List.length_nil, List.length_take, List.length_drop, bRow_length, tRow_length, List.nil_append, Nat.zero_add, Nat.add_zero, Int.toNat_natCast, and_self, and_true, true_and, true_or, or_true, false_or, or_false, not_true_eq_false, not_false_eq_true] <;> omega)) ?_)))
        simp only [hwr]
        rfl
      | rowo =>
        refine ⟨_, .dat .any, ?_⟩
        show (m43o (bRow l) 0 wr w).run = _
        rw [← Tr.ev_run, m43o_eq]
        simp only [List.drop_zero, List.take_length, bRow_length, Nat.zero_add, Int.toNat_natCast, bRow_drop, bRow_take, ed]
        refine aF rfl (gStep (h59' _ _) (aF rfl (aT (by first | with_reducible rfl | with_reducible assumption | (simp only [Bool.and_eq_true, Bool.and_eq_false_iff, Bool.or_eq_true, Bool.true_and, Bool.and_true, decide_eq_true_eq, decide_eq_false_iff_not, Bool.not_eq_true', Bool.not_eq_false', beq_iff_eq, beq_eq_false_iff_ne, bne_iff_ne, bne_eq_false_iff_eq, ne_eq, fits_iff, whole_iff, List.length_append, List.length_map, List.length_cons, List.length_nil, List.length_take, List.length_drop, bRow_length, tRow_length, List.nil_append, Nat.zero_add, Nat.add_zero, Int.toNat_natCast, and_self, and_true, true_and, true_or, or_true, false_or, or_false, not_true_eq_false, not_false_eq_true] <;> omega)) ?_)))
        simp only [hwr]
        rfl
      | dat k =>
        refine ⟨_, .dat k, ?_⟩
        show (m43d k (bRow l) 0 wr w).run = _
        rw [← Tr.ev_run, m43d_eq]
        simp only [bRow_length, Nat.zero_add, Int.toNat_natCast, bRow_drop, bRow_take, ed, Int.lt_irrefl, and_false, if_false, Bool.or_true]
        refine aF rfl (gStep (h59' _ _) (aF rfl (aT (by first | with_reducible rfl | with_reducible assumption | (simp only [Bool.and_eq_true, Bool.and_eq_false_iff, Bool.or_eq_true, Bool.true_and, Bool.and_true, decide_eq_true_eq, decide_eq_false_iff_not, Bool.not_eq_true', Bool.not_eq_false', beq_iff_eq, beq_eq_false_iff_ne, bne_iff_ne, bne_eq_false_iff_eq, ne_eq, fits_iff, whole_iff, List.length_append, List.length_map, List.length_cons, List.length_nil, List.length_take, List.length_drop, bRow_length, tRow_length, List.nil_append, Nat.zero_add, Nat.add_zero, Int.toNat_natCast, and_self, and_true, true_and, true_or, or_true, false_or, or_false, not_true_eq_false, not_false_eq_true] <;> omega)) (aT rfl ?_))))
        simp only [hwr]
        rfl
  · rw [numS_err he]
    cases hr with
    | row =>
      refine ⟨_, .row, ?_⟩
      show (m43r (bRow l) e wr w).run = _
      rw [← Tr.ev_run, m43r_eq]
      refine aT (by simpa using he) rfl
    | rowo =>
      refine ⟨_, .rowo, ?_⟩
      show (m43o (bRow l) e wr w).run = _
      rw [← Tr.ev_run, m43o_eq]
      refine aT (by simpa using he) rfl
    | dat k =>
      refine ⟨_, .dat k, ?_⟩
      show (m43d k (bRow l) e wr w).run = _
      rw [← Tr.ev_run, m43d_eq]
      refine aT (by simpa using he) rfl

theorem c47 {l : List UInt8} {e : Int} {a : AV} {wr : Bool} (hr : Rd l a) :
    R47 [.ptr (.glob 0) 0] [rdr' a e, takr' wr] = some (out47 [rdr' a e, takr' wr] (if e ≠ 0 then 0 else l.length)) := by
  by_cases he : e = 0
  · subst he
    cases hr with
    | row =>
      show (m47r (bRow l) 0 wr).run = _
      rw [← Tr.ev_run, m47r_eq, bRow_length]
      exact aF rfl rfl
    | rowo =>
      show (m47o (bRow l) 0 wr).run = _
      rw [← Tr.ev_run, m47o_eq, bRow_length]
      exact aF rfl rfl
    | dat k =>
      show (m47d k (bRow l) 0 wr).run = _
      rw [← Tr.ev_run, m47d_eq, bRow_length]
      exact aF rfl rfl
  · rw [if_pos he]
    cases hr with
    | row =>
      show (m47r (bRow l) e wr).run = _
      rw [← Tr.ev_run, m47r_eq]
      exact aT (by simpa using he) rfl
    | rowo =>
      show (m47o (bRow l) e wr).run = _
      rw [← Tr.ev_run, m47o_eq]
      exact aT (by simpa using he) rfl
    | dat k =>
      show (m47d k (bRow l) e wr).run = _
      rw [← Tr.ev_run, m47d_eq]
      exact aT (by simpa using he) rfl

theorem c45 {l : List UInt8} {e : Int} {a : AV} {wr : Bool} (hr : Rd l a) (hl : l.length ≤ 140737488355328) :
    ∃ a', Rd (bytesS (l, e)).2.1 a' ∧ R45 [.ptr (.glob 0) 0, .dat (.int .i64 64)] [rdr' a e, takr' wr] = some (match (bytesS (l, e)).1 with
      | some b => out45y [rdr' a e, takr' wr] (bRow b, a', (bytesS (l, e)).2.2)
      | none => out45n [rdr' a e, takr' wr] (a', (bytesS (l, e)).2.2)) := by
  by_cases he : e = 0
  · subst he
    by_cases hs : l.length < 64
    · have hb : bytesS (l, 0) = (none, (l, 7)) := by simp [bytesS, hs]
      rw [hb]
      cases hr with
      | row =>
        refine ⟨_, .row, ?_⟩
        show (m45r (bRow l) 0 wr).run = _
        rw [← Tr.ev_run, m45r_eq]
        exact aF rfl (aT (by first | with_reducible rfl | with_reducible assumption | (simp only [Bool.and_eq_true, Bool.and_eq_false_iff, Bool.or_eq_true, Bool.true_and, Bool.and_true, decide_eq_true_eq, decide_eq_false_iff_not, Bool.not_eq_true', Bool.not_eq_false', beq_iff_eq, beq_eq_false_iff_ne, bne_iff_ne, bne_eq_false_iff_eq, ne_eq, fits_iff, whole_iff, List.length_append, List.length_map, List.length_cons, List.length_nil, List.length_take, List.length_drop, bRow_length, tRow_length, List.nil_append, Nat.zero_add, Nat.add_zero, Int.toNat_natCast, and_self, and_true, true_and, true_or, or_true, false_or, or_false, not_true_eq_false, not_false_eq_true] <;> omega)) rfl)
      | rowo =>
        refine ⟨_, .rowo, ?_⟩
        show (m45o (bRow l) 0 wr).run = _
        rw [← Tr.ev_run, m45o_eq]
        exact aF rfl (aT (by first | with_reducible rfl | with_reducible assumption | (simp only [Bool.and_eq_true, Bool.and_eq_false_iff, Bool.or_eq_true, Bool.true_and, Bool.and_true, decide_eq_true_eq, decide_eq_false_iff_not, Bool.not_eq_true', Bool.not_eq_false', beq_iff_eq, beq_eq_false_iff_ne, bne_iff_ne, bne_eq_false_iff_eq, ne_eq, fits_iff, whole_iff, List.length_append, List.length_map, List.length_cons, List.length_nil, List.length_take, List.length_drop, bRow_length, tRow_length, List.nil_append, Nat.zero_add, Nat.add_zero, Int.toNat_natCast, and_self, and_true, true_and, true_or, or_true, false_or, or_false, not_true_eq_false, not_false_eq_true] <;> omega)) rfl)
      | dat k =>
        refine ⟨_, .dat k, ?_⟩
        show (m45d k (bRow l) 0 wr).run = _
        rw [← Tr.ev_run, m45d_eq]
        exact aF rfl (aT (by first | with_reducible rfl | with_reducible assumption | (simp only [Bool.and_eq_true, Bool.and_eq_false_iff, Bool.or_eq_true, Bool.true_and, Bool.and_true, decide_eq_true_eq, decide_eq_false_iff_not, Bool.not_eq_true', Bool.not_eq_false', beq_iff_eq, beq_eq_false_iff_ne, bne_iff_ne, bne_eq_false_iff_eq, ne_eq, fits_iff, whole_iff, List.length_append, List.length_map, List.length_cons, List.length_nil, List.length_take, List.length_drop, bRow_length, tRow_length, List.nil_append, Nat.zero_add, Nat.add_zero, Int.toNat_natCast, and_self, and_true, true_and, true_or, or_true, false_or, or_false, not_true_eq_false, not_false_eq_true] <;> omega)) rfl)
    · have hb : bytesS (l, 0) = (some (l.take 64), (l.drop 64, 0)) := by simp [bytesS, hs]
      rw [hb]
      have ed : List.take (l.length - 64) (List.drop 64 l) = l.drop 64 := List.take_of_length_le (by simp)
      have en : List.isEmpty (bRow (l.take 64)) = false := by
        have : (bRow (l.take 64)).length = 64 := by simp; omega
        cases h : bRow (l.take 64) with
        | nil => rw [h] at this; cases this
        | cons _ _ => rfl
      cases hr with
      | row =>
        refine ⟨_, .dat .any, ?_⟩
        show (m45r (bRow l) 0 wr).run = _
        rw [← Tr.ev_run, m45r_eq]
        simp only [List.drop_zero, bRow_length, Nat.zero_add, Int.toNat_natCast, bRow_drop, bRow_take, ed, en]
        (repeat first
    | ((with_reducible refine aT ?_ ?_); · first | with_reducible rfl | with_reducible assumption | (simp only [Bool.and_eq_true, Bool.and_eq_false_iff, Bool.or_eq_true, Bool.true_and, Bool.and_true, decide_eq_true_eq, decide_eq_false_iff_not, Bool.not_eq_true', Bool.not_eq_false', beq_iff_eq, beq_eq_false_iff_ne, bne_iff_ne, bne_eq_false_iff_eq, ne_eq, fits_iff, whole_iff, List.length_append, List.length_map, List.length_cons, List.length_nil, List.length_take, List.length_drop, bRow_length, tRow_length, List.nil_append, Nat.zero_add, Nat.add_zero, Int.toNat_natCast, and_self, and_true, true_and, true_or, or_true, false_or, or_false, not_true_eq_false, not_false_eq_true, List.length_take] <;> omega))
    | ((with_reducible refine aF ?_ ?_); · first | with_reducible rfl | with_reducible assumption | (simp only [Bool.and_eq_true, Bool.and_eq_false_iff, Bool.or_eq_true, Bool.true_and, Bool.and_true, decide_eq_true_eq, decide_eq_false_iff_not, Bool.not_eq_true', Bool.not_eq_false', beq_iff_eq, beq_eq_false_iff_ne, bne_iff_ne, bne_eq_false_iff_eq, ne_eq, fits_iff, whole_iff, List.length_append, List.length_map, List.length_cons, List.length_nil, List.length_take, List.length_drop, bRow_length, tRow_length, List.nil_append, Nat.zero_add, Nat.add_zero, Int.toNat_natCast, and_self, and_true, true_and, true_or, or_true, false_or, or_false, not_true_eq_false, not_false_eq_true, List.length_take] <;> omega))
    | ((with_reducible apply gStep); · first | exact rfl))
        rfl
      | rowo =>
        refine ⟨_, .dat .any, ?_⟩
        show (m45o (bRow l) 0 wr).run = _
        rw [← Tr.ev_run, m45o_eq]
        simp only [List.drop_zero, bRow_length, Nat.zero_add, Int.toNat_natCast, bRow_drop, bRow_take, ed, en]
        (repeat first
    | ((with_reducible refine aT ?_ ?_); · first | with_reducible rfl | with_reducible assumption | (simp only [Bool.and_eq_true, Bool.and_eq_false_iff, Bool.or_eq_true, Bool.true_and, Bool.and_true, decide_eq_true_eq, decide_eq_false_iff_not, Bool.not_eq_true', Bool.not_eq_false', beq_iff_eq, beq_eq_false_iff_ne, bne_iff_ne, bne_eq_false_iff_eq, ne_eq, fits_iff, whole_iff, List.length_append, List.length_map, List.length_cons, List.length_nil, List.length_take, List.length_drop, bRow_length, tRow_length, List.nil_append, Nat.zero_add, Nat.add_zero, Int.toNat_natCast, and_self, and_true, true_and, true_or, or_true, false_or, or_false, not_true_eq_false, not_false_eq_true, List.length_take] <;> omega))
    | ((with_reducible refine aF ?_ ?_); · first | with_reducible rfl | with_reducible assumption | (simp only [Bool.and_eq_true, Bool.and_eq_false_iff, Bool.or_eq_true, Bool.true_and, Bool.and_true, decide_eq_true_eq, decide_eq_false_iff_not, Bool.not_eq_true', Bool.not_eq_false', beq_iff_eq, beq_eq_false_iff_ne, bne_iff_ne, bne_eq_false_iff_eq, ne_eq, fits_iff, whole_iff, List.length_append, List.length_map, List.length_cons, List.length_nil, List.length_take, List.length_drop, bRow_length, tRow_length, List.nil_append, Nat.zero_add, Nat.add_zero, Int.toNat_natCast, and_self, and_true, true_and, true_or, or_true, false_or, or_false, not_true_eq_false, not_false_eq_true, List.length_take] <;> omega))
    | ((with_reducible apply gStep); · first | exact rfl))
        rfl
      | dat k =>
        refine ⟨_, .dat k, ?_⟩
        show (m45d k (bRow l) 0 wr).run = _
        rw [← Tr.ev_run, m45d_eq]
        simp only [List.drop_zero, bRow_length, Nat.zero_add, Int.toNat_natCast, bRow_drop, bRow_take, ed, en, Int.lt_irrefl, and_false, if_false, Bool.or_true]
        (repeat first
    | ((with_reducible refine aT ?_ ?_); · first | with_reducible rfl | with_reducible assumption | (simp only [Bool.and_eq_true, Bool.and_eq_false_iff, Bool.or_eq_true, Bool.true_and, Bool.and_true, decide_eq_true_eq, decide_eq_false_iff_not, Bool.not_eq_true', Bool.not_eq_false', beq_iff_eq, beq_eq_false_iff_ne, bne_iff_ne, bne_eq_false_iff_eq, ne_eq, fits_iff, whole_iff, List.length_append, List.length_map, List.length_cons, List.length_nil, List.length_take, List.length_drop, bRow_length, tRow_length, List.nil_append, Nat.zero_add, Nat.add_zero, Int.toNat_natCast, and_self, and_true, true_and, true_or, or_true, false_or, or_false, not_true_eq_false, not_false_eq_true, List.length_take] <;> omega))
    | ((with_reducible refine aF ?_ ?_); · first | with_reducible rfl | with_reducible assumption | (simp only [Bool.and_eq_true, Bool.and_eq_false_iff, Bool.or_eq_true, Bool.true_and, Bool.and_true, decide_eq_true_eq, decide_eq_false_iff_not, Bool.not_eq_true', Bool.not_eq_false', beq_iff_eq, beq_eq_false_iff_ne, bne_iff_ne, bne_eq_false_iff_eq, ne_eq, fits_iff, whole_iff, List.length_append, List.length_map, List.length_cons, List.length_nil, List.length_take, List.length_drop, bRow_length, tRow_length, List.nil_append, Nat.zero_add, Nat.add_zero, Int.toNat_natCast, and_self, and_true, true_and, true_or, or_true, false_or, or_false, not_true_eq_false, not_false_eq_true, List.length_take] <;> omega))
    | ((with_reducible apply gStep); · first | exact rfl))
        rfl
  · have hb : bytesS (l, e) = (none, (l, e)) := by simp [bytesS, he]
    rw [hb]
    cases hr with
    | row =>
      refine ⟨_, .row, ?_⟩
      show (m45r (bRow l) e wr).run = _
      rw [← Tr.ev_run, m45r_eq]
      exact aT (by simpa using he) rfl
    | rowo =>
      refine ⟨_, .rowo, ?_⟩
      show (m45o (bRow l) e wr).run = _
      rw [← Tr.ev_run, m45o_eq]
      exact aT (by simpa using he) rfl
    | dat k =>
      refine ⟨_, .dat k, ?_⟩
      show (m45d k (bRow l) e wr).run = _
      rw [← Tr.ev_run, m45d_eq]
      exact aT (by simpa using he) rfl

end Go.Eng
end

/- The step that bytes begin with: the program's Get. -/
section
namespace Go.Eng
open Go
set_option maxRecDepth 100000
set_option linter.unusedSimpArgs false

theorem rk23a_eq (k : LK) (xs : Row) (kd nd at' nn : Int) (s : ByteArray) (p : Int) (n : Int) (a : AV) (e : Int) (wr : Bool) : (rk23a k xs kd nd at' nn s p n a e wr).ev =
  (rAsk (decide (n > (0 : Int)))
   (rAsk wr
    (some ((Ex.exit 0), (St.mk (mkT 0 66 [(0, (AV.dat (D.list k 1 xs))), (2, (AV.ptr (Ref.loc 0) 0)), (5, (AV.ptr (Ref.glob 1) 0)), (6, (AV.ptr (Ref.loc 1) 0))]) (Mem.mk [(Option.some (Ent.obj [(AV.dat (D.int IntKind.i64 (0 : Int))), (AV.dat (D.int IntKind.i64 (0 : Int))), (AV.dat (D.int IntKind.i64 (0 : Int))), (AV.dat (D.int IntKind.i64 (0 : Int))), (AV.dat (D.str (ByteArray.mk (List.toArray [])))), (AV.dat (D.int IntKind.i64 (0 : Int))), (AV.dat (D.list LK.nil 0 ([] : Row)))])), (Option.some (Ent.obj [(AV.dat (D.int IntKind.i64 kd)), (AV.dat (D.int IntKind.i64 nd)), (AV.dat (D.int IntKind.i64 at')), (AV.dat (D.int IntKind.i64 nn)), (AV.dat (D.str s)), (AV.dat (D.int IntKind.i64 p)), (AV.dat (D.list LK.nil 0 ([] : Row)))]))] [(Ent.obj [a, (AV.dat (D.int IntKind.i64 e))]), (Ent.obj [(AV.ptr (Ref.glob 0) 0), (AV.dat (D.bool wr))])] 0))))
    (rAsk (e != (0 : Int))
     (some ((Ex.exit 0), (St.mk (mkT 0 66 [(0, (AV.dat (D.list k 1 xs))), (2, (AV.ptr (Ref.loc 0) 0)), (5, (AV.ptr (Ref.glob 1) 0)), (6, (AV.ptr (Ref.loc 1) 0))]) (Mem.mk [(Option.some (Ent.obj [(AV.dat (D.int IntKind.i64 (0 : Int))), (AV.dat (D.int IntKind.i64 (0 : Int))), (AV.dat (D.int IntKind.i64 (0 : Int))), (AV.dat (D.int IntKind.i64 (0 : Int))), (AV.dat (D.str (ByteArray.mk (List.toArray [])))), (AV.dat (D.int IntKind.i64 (0 : Int))), (AV.dat (D.list LK.nil 0 ([] : Row)))])), (Option.some (Ent.obj [(AV.dat (D.int IntKind.i64 kd)), (AV.dat (D.int IntKind.i64 nd)), (AV.dat (D.int IntKind.i64 at')), (AV.dat (D.int IntKind.i64 nn)), (AV.dat (D.str s)), (AV.dat (D.int IntKind.i64 p)), (AV.dat (D.list LK.nil 0 ([] : Row)))]))] [(Ent.obj [a, (AV.dat (D.int IntKind.i64 e))]), (Ent.obj [(AV.ptr (Ref.glob 0) 0), (AV.dat (D.bool wr))])] 0))))
     (rGet (fnS (fun (p : Int × AV × Int) => ((AV.dat (D.int IntKind.i64 p.1)), [(Ent.obj [p.2.1, (AV.dat (D.int IntKind.i64 p.2.2))]), (Ent.obj [(AV.ptr (Ref.glob 0) 0), (AV.dat (D.bool wr))])])) (R43 [(AV.ptr (Ref.glob 1) 0), (AV.dat (D.int IntKind.i64 (1 : Int)))] [(Ent.obj [a, (AV.dat (D.int IntKind.i64 e))]), (Ent.obj [(AV.ptr (Ref.glob 0) 0), (AV.dat (D.bool wr))])])) fun x1 =>
      (rAsk wr
       (some (Ex.norm, (St.mk (mkT 0 66 [(0, (AV.dat (D.list k 1 xs))), (2, (AV.ptr (Ref.loc 0) 0)), (5, (AV.ptr (Ref.glob 1) 0)), (6, (AV.ptr (Ref.loc 1) 0)), (7, (AV.dat (D.int IntKind.i64 (IntKind.wrap IntKind.i64 (n - (1 : Int))))))]) (Mem.mk [(Option.some (Ent.obj [(AV.dat (D.int IntKind.i64 (0 : Int))), (AV.dat (D.int IntKind.i64 (0 : Int))), (AV.dat (D.int IntKind.i64 (0 : Int))), (AV.dat (D.int IntKind.i64 (0 : Int))), (AV.dat (D.str (ByteArray.mk (List.toArray [])))), (AV.dat (D.int IntKind.i64 (0 : Int))), (AV.dat (D.list LK.nil 0 ([] : Row)))])), (Option.some (Ent.obj [(AV.dat (D.int IntKind.i64 kd)), (AV.dat (D.int IntKind.i64 nd)), (AV.dat (D.int IntKind.i64 at')), (AV.dat (D.int IntKind.i64 nn)), (AV.dat (D.str s)), (AV.dat (D.int IntKind.i64 p)), (AV.sh false 2 1 0 1)])), (Option.some (Ent.row Mode.excl 1 [[(D.bool (x1.1 == (1 : Int)))]]))] [(Ent.obj [x1.2.1, (AV.dat (D.int IntKind.i64 x1.2.2))]), (Ent.obj [(AV.ptr (Ref.glob 0) 0), (AV.dat (D.bool true))])] 0))))
       (some (Ex.norm, (St.mk (mkT 0 66 [(0, (AV.dat (D.list k 1 xs))), (2, (AV.ptr (Ref.loc 0) 0)), (5, (AV.ptr (Ref.glob 1) 0)), (6, (AV.ptr (Ref.loc 1) 0)), (7, (AV.dat (D.int IntKind.i64 (IntKind.wrap IntKind.i64 (n - (1 : Int))))))]) (Mem.mk [(Option.some (Ent.obj [(AV.dat (D.int IntKind.i64 (0 : Int))), (AV.dat (D.int IntKind.i64 (0 : Int))), (AV.dat (D.int IntKind.i64 (0 : Int))), (AV.dat (D.int IntKind.i64 (0 : Int))), (AV.dat (D.str (ByteArray.mk (List.toArray [])))), (AV.dat (D.int IntKind.i64 (0 : Int))), (AV.dat (D.list LK.nil 0 ([] : Row)))])), (Option.some (Ent.obj [(AV.dat (D.int IntKind.i64 kd)), (AV.dat (D.int IntKind.i64 nd)), (AV.dat (D.int IntKind.i64 at')), (AV.dat (D.int IntKind.i64 nn)), (AV.dat (D.str s)), (AV.dat (D.int IntKind.i64 p)), (AV.sh false 2 1 0 1)])), (Option.some (Ent.row Mode.excl 1 [[(D.bool (x1.1 == (1 : Int)))]]))] [(Ent.obj [x1.2.1, (AV.dat (D.int IntKind.i64 x1.2.2))]), (Ent.obj [(AV.ptr (Ref.glob 0) 0), (AV.dat (D.bool (decide (x1.1 > (1 : Int)))))])] 0))))
      )
     )
    )
   )
   (some ((Ex.exit 0), (St.mk (mkT 0 66 [(0, (AV.dat (D.list k 1 xs))), (2, (AV.ptr (Ref.loc 0) 0)), (5, (AV.ptr (Ref.glob 1) 0)), (6, (AV.ptr (Ref.loc 1) 0))]) (Mem.mk [(Option.some (Ent.obj [(AV.dat (D.int IntKind.i64 (0 : Int))), (AV.dat (D.int IntKind.i64 (0 : Int))), (AV.dat (D.int IntKind.i64 (0 : Int))), (AV.dat (D.int IntKind.i64 (0 : Int))), (AV.dat (D.str (ByteArray.mk (List.toArray [])))), (AV.dat (D.int IntKind.i64 (0 : Int))), (AV.dat (D.list LK.nil 0 ([] : Row)))])), (Option.some (Ent.obj [(AV.dat (D.int IntKind.i64 kd)), (AV.dat (D.int IntKind.i64 nd)), (AV.dat (D.int IntKind.i64 at')), (AV.dat (D.int IntKind.i64 nn)), (AV.dat (D.str s)), (AV.dat (D.int IntKind.i64 p)), (AV.dat (D.list LK.nil 0 ([] : Row)))]))] [(Ent.obj [a, (AV.dat (D.int IntKind.i64 e))]), (Ent.obj [(AV.ptr (Ref.glob 0) 0), (AV.dat (D.bool wr))])] 0))))
  )
  := by kernel_rfl

theorem rk23b_eq (k : LK) (xs : Row) (kd nd at' nn : Int) (s : ByteArray) (p : Int) (keep : Row) (n : Int) (a : AV) (e : Int) (wr : Bool) : (rk23b k xs kd nd at' nn s p keep n a e wr).ev =
  (rAsk (decide (n > (0 : Int)))
   (rAsk wr
    (some ((Ex.exit 0), (St.mk (mkT 0 66 [(0, (AV.dat (D.list k 1 xs))), (2, (AV.ptr (Ref.loc 0) 0)), (5, (AV.ptr (Ref.glob 1) 0)), (6, (AV.ptr (Ref.loc 1) 0))]) (Mem.mk [(Option.some (Ent.obj [(AV.dat (D.int IntKind.i64 (0 : Int))), (AV.dat (D.int IntKind.i64 (0 : Int))), (AV.dat (D.int IntKind.i64 (0 : Int))), (AV.dat (D.int IntKind.i64 (0 : Int))), (AV.dat (D.str (ByteArray.mk (List.toArray [])))), (AV.dat (D.int IntKind.i64 (0 : Int))), (AV.dat (D.list LK.nil 0 ([] : Row)))])), (Option.some (Ent.obj [(AV.dat (D.int IntKind.i64 kd)), (AV.dat (D.int IntKind.i64 nd)), (AV.dat (D.int IntKind.i64 at')), (AV.dat (D.int IntKind.i64 nn)), (AV.dat (D.str s)), (AV.dat (D.int IntKind.i64 p)), (AV.sh false 2 1 0 (List.length keep))])), (Option.some (Ent.row Mode.excl 1 keep))] [(Ent.obj [a, (AV.dat (D.int IntKind.i64 e))]), (Ent.obj [(AV.ptr (Ref.glob 0) 0), (AV.dat (D.bool wr))])] 0))))
    (rAsk (e != (0 : Int))
     (some ((Ex.exit 0), (St.mk (mkT 0 66 [(0, (AV.dat (D.list k 1 xs))), (2, (AV.ptr (Ref.loc 0) 0)), (5, (AV.ptr (Ref.glob 1) 0)), (6, (AV.ptr (Ref.loc 1) 0))]) (Mem.mk [(Option.some (Ent.obj [(AV.dat (D.int IntKind.i64 (0 : Int))), (AV.dat (D.int IntKind.i64 (0 : Int))), (AV.dat (D.int IntKind.i64 (0 : Int))), (AV.dat (D.int IntKind.i64 (0 : Int))), (AV.dat (D.str (ByteArray.mk (List.toArray [])))), (AV.dat (D.int IntKind.i64 (0 : Int))), (AV.dat (D.list LK.nil 0 ([] : Row)))])), (Option.some (Ent.obj [(AV.dat (D.int IntKind.i64 kd)), (AV.dat (D.int IntKind.i64 nd)), (AV.dat (D.int IntKind.i64 at')), (AV.dat (D.int IntKind.i64 nn)), (AV.dat (D.str s)), (AV.dat (D.int IntKind.i64 p)), (AV.sh false 2 1 0 (List.length keep))])), (Option.some (Ent.row Mode.excl 1 keep))] [(Ent.obj [a, (AV.dat (D.int IntKind.i64 e))]), (Ent.obj [(AV.ptr (Ref.glob 0) 0), (AV.dat (D.bool wr))])] 0))))
     (rGet (fnS (fun (p : Int × AV × Int) => ((AV.dat (D.int IntKind.i64 p.1)), [(Ent.obj [p.2.1, (AV.dat (D.int IntKind.i64 p.2.2))]), (Ent.obj [(AV.ptr (Ref.glob 0) 0), (AV.dat (D.bool wr))])])) (R43 [(AV.ptr (Ref.glob 1) 0), (AV.dat (D.int IntKind.i64 (1 : Int)))] [(Ent.obj [a, (AV.dat (D.int IntKind.i64 e))]), (Ent.obj [(AV.ptr (Ref.glob 0) 0), (AV.dat (D.bool wr))])])) fun x1 =>
      (rAsk wr
       (rAsk ((decide ((0 + (List.length keep)) ≤ (List.length keep))) && (fits (TI.mk TK.bool 1 1 [(AV.dat (D.bool false))] true) ((List.length keep) + 1)))
        (rAsk (true && (decide ((List.length keep) = (List.length keep))))
         (some (Ex.norm, (St.mk (mkT 0 66 [(0, (AV.dat (D.list k 1 xs))), (2, (AV.ptr (Ref.loc 0) 0)), (5, (AV.ptr (Ref.glob 1) 0)), (6, (AV.ptr (Ref.loc 1) 0)), (7, (AV.dat (D.int IntKind.i64 (IntKind.wrap IntKind.i64 (n - (1 : Int))))))]) (Mem.mk [(Option.some (Ent.obj [(AV.dat (D.int IntKind.i64 (0 : Int))), (AV.dat (D.int IntKind.i64 (0 : Int))), (AV.dat (D.int IntKind.i64 (0 : Int))), (AV.dat (D.int IntKind.i64 (0 : Int))), (AV.dat (D.str (ByteArray.mk (List.toArray [])))), (AV.dat (D.int IntKind.i64 (0 : Int))), (AV.dat (D.list LK.nil 0 ([] : Row)))])), (Option.some (Ent.obj [(AV.dat (D.int IntKind.i64 kd)), (AV.dat (D.int IntKind.i64 nd)), (AV.dat (D.int IntKind.i64 at')), (AV.dat (D.int IntKind.i64 nn)), (AV.dat (D.str s)), (AV.dat (D.int IntKind.i64 p)), (AV.sh false 2 1 0 ((List.length keep) + 1))])), (Option.some (Ent.row Mode.excl 1 (keep ++ [[(D.bool (x1.1 == (1 : Int)))]])))] [(Ent.obj [x1.2.1, (AV.dat (D.int IntKind.i64 x1.2.2))]), (Ent.obj [(AV.ptr (Ref.glob 0) 0), (AV.dat (D.bool true))])] 0))))
         none
        )
        none
       )
       (rAsk ((decide ((0 + (List.length keep)) ≤ (List.length keep))) && (fits (TI.mk TK.bool 1 1 [(AV.dat (D.bool false))] true) ((List.length keep) + 1)))
        (rAsk (true && (decide ((List.length keep) = (List.length keep))))
         (some (Ex.norm, (St.mk (mkT 0 66 [(0, (AV.dat (D.list k 1 xs))), (2, (AV.ptr (Ref.loc 0) 0)), (5, (AV.ptr (Ref.glob 1) 0)), (6, (AV.ptr (Ref.loc 1) 0)), (7, (AV.dat (D.int IntKind.i64 (IntKind.wrap IntKind.i64 (n - (1 : Int))))))]) (Mem.mk [(Option.some (Ent.obj [(AV.dat (D.int IntKind.i64 (0 : Int))), (AV.dat (D.int IntKind.i64 (0 : Int))), (AV.dat (D.int IntKind.i64 (0 : Int))), (AV.dat (D.int IntKind.i64 (0 : Int))), (AV.dat (D.str (ByteArray.mk (List.toArray [])))), (AV.dat (D.int IntKind.i64 (0 : Int))), (AV.dat (D.list LK.nil 0 ([] : Row)))])), (Option.some (Ent.obj [(AV.dat (D.int IntKind.i64 kd)), (AV.dat (D.int IntKind.i64 nd)), (AV.dat (D.int IntKind.i64 at')), (AV.dat (D.int IntKind.i64 nn)), (AV.dat (D.str s)), (AV.dat (D.int IntKind.i64 p)), (AV.sh false 2 1 0 ((List.length keep) + 1))])), (Option.some (Ent.row Mode.excl 1 (keep ++ [[(D.bool (x1.1 == (1 : Int)))]])))] [(Ent.obj [x1.2.1, (AV.dat (D.int IntKind.i64 x1.2.2))]), (Ent.obj [(AV.ptr (Ref.glob 0) 0), (AV.dat (D.bool (decide (x1.1 > (1 : Int)))))])] 0))))
         none
        )
        none
       )
      )
     )
    )
   )
   (some ((Ex.exit 0), (St.mk (mkT 0 66 [(0, (AV.dat (D.list k 1 xs))), (2, (AV.ptr (Ref.loc 0) 0)), (5, (AV.ptr (Ref.glob 1) 0)), (6, (AV.ptr (Ref.loc 1) 0))]) (Mem.mk [(Option.some (Ent.obj [(AV.dat (D.int IntKind.i64 (0 : Int))), (AV.dat (D.int IntKind.i64 (0 : Int))), (AV.dat (D.int IntKind.i64 (0 : Int))), (AV.dat (D.int IntKind.i64 (0 : Int))), (AV.dat (D.str (ByteArray.mk (List.toArray [])))), (AV.dat (D.int IntKind.i64 (0 : Int))), (AV.dat (D.list LK.nil 0 ([] : Row)))])), (Option.some (Ent.obj [(AV.dat (D.int IntKind.i64 kd)), (AV.dat (D.int IntKind.i64 nd)), (AV.dat (D.int IntKind.i64 at')), (AV.dat (D.int IntKind.i64 nn)), (AV.dat (D.str s)), (AV.dat (D.int IntKind.i64 p)), (AV.sh false 2 1 0 (List.length keep))])), (Option.some (Ent.row Mode.excl 1 keep))] [(Ent.obj [a, (AV.dat (D.int IntKind.i64 e))]), (Ent.obj [(AV.ptr (Ref.glob 0) 0), (AV.dat (D.bool wr))])] 0))))
  )
  := by kernel_rfl

theorem f23t_eq (k : LK) (xs : Row) : (f23t k xs).ev =
  (rGet (fnS (fun (a : AV) => ((AV.ptr (Ref.glob 0) 0), [(Ent.obj [a, (AV.dat (D.int IntKind.i64 (0 : Int)))])])) (R42 [(AV.dat (D.list k 1 xs))] [])) fun x1 =>
   (rGet (fnS (fun (p : Int × AV × Int) => ((AV.dat (D.int IntKind.i64 p.1)), [(Ent.obj [p.2.1, (AV.dat (D.int IntKind.i64 p.2.2))]), (Ent.obj [(AV.ptr (Ref.glob 0) 0), (AV.dat (D.bool false))])])) (R43 [(AV.ptr (Ref.glob 1) 0), (AV.dat (D.int IntKind.i64 (1 : Int)))] [(Ent.obj [x1, (AV.dat (D.int IntKind.i64 (0 : Int)))]), (Ent.obj [(AV.ptr (Ref.glob 0) 0), (AV.dat (D.bool false))])])) fun x2 =>
    (rGet (fnS (fun (p : Int × AV × Int) => ((AV.dat (D.int IntKind.i64 p.1)), [(Ent.obj [p.2.1, (AV.dat (D.int IntKind.i64 p.2.2))]), (Ent.obj [(AV.ptr (Ref.glob 0) 0), (AV.dat (D.bool false))])])) (R43 [(AV.ptr (Ref.glob 1) 0), (AV.dat (D.int IntKind.i64 (1 : Int)))] [(Ent.obj [x2.2.1, (AV.dat (D.int IntKind.i64 x2.2.2))]), (Ent.obj [(AV.ptr (Ref.glob 0) 0), (AV.dat (D.bool false))])])) fun x3 =>
     (rGet (fnS (fun (p : Int × AV × Int) => ((AV.dat (D.int IntKind.i64 p.1)), [(Ent.obj [p.2.1, (AV.dat (D.int IntKind.i64 p.2.2))]), (Ent.obj [(AV.ptr (Ref.glob 0) 0), (AV.dat (D.bool false))])])) (R43 [(AV.ptr (Ref.glob 1) 0), (AV.dat (D.int IntKind.i64 (2 : Int)))] [(Ent.obj [x3.2.1, (AV.dat (D.int IntKind.i64 x3.2.2))]), (Ent.obj [(AV.ptr (Ref.glob 0) 0), (AV.dat (D.bool false))])])) fun x4 =>
      (rGet (fnS (fun (p : Int × AV × Int) => ((AV.dat (D.int IntKind.i64 p.1)), [(Ent.obj [p.2.1, (AV.dat (D.int IntKind.i64 p.2.2))]), (Ent.obj [(AV.ptr (Ref.glob 0) 0), (AV.dat (D.bool false))])])) (R43 [(AV.ptr (Ref.glob 1) 0), (AV.dat (D.int IntKind.i64 (2 : Int)))] [(Ent.obj [x4.2.1, (AV.dat (D.int IntKind.i64 x4.2.2))]), (Ent.obj [(AV.ptr (Ref.glob 0) 0), (AV.dat (D.bool false))])])) fun x5 =>
       (rGet (fnS (fun (p : Int × AV × Int) => ((AV.dat (D.int IntKind.i64 p.1)), [(Ent.obj [p.2.1, (AV.dat (D.int IntKind.i64 p.2.2))]), (Ent.obj [(AV.ptr (Ref.glob 0) 0), (AV.dat (D.bool false))])])) (R43 [(AV.ptr (Ref.glob 1) 0), (AV.dat (D.int IntKind.i64 (2 : Int)))] [(Ent.obj [x5.2.1, (AV.dat (D.int IntKind.i64 x5.2.2))]), (Ent.obj [(AV.ptr (Ref.glob 0) 0), (AV.dat (D.bool false))])])) fun x6 =>
        (rGet (fnS (fun (p : Int × AV × Int) => ((AV.dat (D.int IntKind.i64 p.1)), [(Ent.obj [p.2.1, (AV.dat (D.int IntKind.i64 p.2.2))]), (Ent.obj [(AV.ptr (Ref.glob 0) 0), (AV.dat (D.bool false))])])) (R43 [(AV.ptr (Ref.glob 1) 0), (AV.dat (D.int IntKind.i64 (1 : Int)))] [(Ent.obj [x6.2.1, (AV.dat (D.int IntKind.i64 x6.2.2))]), (Ent.obj [(AV.ptr (Ref.glob 0) 0), (AV.dat (D.bool false))])])) fun x7 =>
         (rAsk (x7.1 == (1 : Int))
          (rAsk (Option.isSome (fnS (fun (p : Row × AV × Int) => ((AV.own true 1 p.1), [(Ent.obj [p.2.1, (AV.dat (D.int IntKind.i64 p.2.2))]), (Ent.obj [(AV.ptr (Ref.glob 0) 0), (AV.dat (D.bool (decide (x7.1 > (1 : Int)))))])])) (R45 [(AV.ptr (Ref.glob 0) 0), (AV.dat (D.int IntKind.i64 (64 : Int)))] [(Ent.obj [x7.2.1, (AV.dat (D.int IntKind.i64 x7.2.2))]), (Ent.obj [(AV.ptr (Ref.glob 0) 0), (AV.dat (D.bool (decide (x7.1 > (1 : Int)))))])])))
           (rGet (fnS (fun (p : Row × AV × Int) => ((AV.own true 1 p.1), [(Ent.obj [p.2.1, (AV.dat (D.int IntKind.i64 p.2.2))]), (Ent.obj [(AV.ptr (Ref.glob 0) 0), (AV.dat (D.bool (decide (x7.1 > (1 : Int)))))])])) (R45 [(AV.ptr (Ref.glob 0) 0), (AV.dat (D.int IntKind.i64 (64 : Int)))] [(Ent.obj [x7.2.1, (AV.dat (D.int IntKind.i64 x7.2.2))]), (Ent.obj [(AV.ptr (Ref.glob 0) 0), (AV.dat (D.bool (decide (x7.1 > (1 : Int)))))])])) fun x8 =>
            (rGet (rowBytes (List.take (List.length x8.1) (List.drop 0 x8.1))) fun x9 =>
             (rGet (fnS (fun (p : Int × AV × Int) => ((AV.dat (D.int IntKind.i64 p.1)), [(Ent.obj [p.2.1, (AV.dat (D.int IntKind.i64 p.2.2))]), (Ent.obj [(AV.ptr (Ref.glob 0) 0), (AV.dat (D.bool (decide (x7.1 > (1 : Int)))))])])) (R43 [(AV.ptr (Ref.glob 1) 0), (AV.dat (D.int IntKind.i64 (1 : Int)))] [(Ent.obj [x8.2.1, (AV.dat (D.int IntKind.i64 x8.2.2))]), (Ent.obj [(AV.ptr (Ref.glob 0) 0), (AV.dat (D.bool (decide (x7.1 > (1 : Int)))))])])) fun x10 =>
              (rAsk (Option.isSome (loS TT (TOrc.runs (tY 3)) (HSa 23) lp23 (out23a k xs) (St.mk (mkT 0 66 [(0, (AV.dat (D.list k 1 xs))), (2, (AV.ptr (Ref.loc 0) 0)), (5, (AV.ptr (Ref.glob 1) 0)), (6, (AV.ptr (Ref.loc 1) 0)), (7, (AV.dat (D.int IntKind.i64 x10.1)))]) (Mem.mk [(Option.some (Ent.obj [(AV.dat (D.int IntKind.i64 (0 : Int))), (AV.dat (D.int IntKind.i64 (0 : Int))), (AV.dat (D.int IntKind.i64 (0 : Int))), (AV.dat (D.int IntKind.i64 (0 : Int))), (AV.dat (D.str (ByteArray.mk (List.toArray [])))), (AV.dat (D.int IntKind.i64 (0 : Int))), (AV.dat (D.list LK.nil 0 ([] : Row)))])), (Option.some (Ent.obj [(AV.dat (D.int IntKind.i64 x2.1)), (AV.dat (D.int IntKind.i64 x3.1)), (AV.dat (D.int IntKind.i64 x4.1)), (AV.dat (D.int IntKind.i64 x5.1)), (AV.dat (D.str (ByteArray.mk (List.toArray x9)))), (AV.dat (D.int IntKind.i64 x6.1)), (AV.dat (D.list LK.nil 0 ([] : Row)))]))] [(Ent.obj [x10.2.1, (AV.dat (D.int IntKind.i64 x10.2.2))]), (Ent.obj [(AV.ptr (Ref.glob 0) 0), (AV.dat (D.bool (decide (x7.1 > (1 : Int)))))])] 0))))
               (rGet (loS TT (TOrc.runs (tY 3)) (HSa 23) lp23 (out23a k xs) (St.mk (mkT 0 66 [(0, (AV.dat (D.list k 1 xs))), (2, (AV.ptr (Ref.loc 0) 0)), (5, (AV.ptr (Ref.glob 1) 0)), (6, (AV.ptr (Ref.loc 1) 0)), (7, (AV.dat (D.int IntKind.i64 x10.1)))]) (Mem.mk [(Option.some (Ent.obj [(AV.dat (D.int IntKind.i64 (0 : Int))), (AV.dat (D.int IntKind.i64 (0 : Int))), (AV.dat (D.int IntKind.i64 (0 : Int))), (AV.dat (D.int IntKind.i64 (0 : Int))), (AV.dat (D.str (ByteArray.mk (List.toArray [])))), (AV.dat (D.int IntKind.i64 (0 : Int))), (AV.dat (D.list LK.nil 0 ([] : Row)))])), (Option.some (Ent.obj [(AV.dat (D.int IntKind.i64 x2.1)), (AV.dat (D.int IntKind.i64 x3.1)), (AV.dat (D.int IntKind.i64 x4.1)), (AV.dat (D.int IntKind.i64 x5.1)), (AV.dat (D.str (ByteArray.mk (List.toArray x9)))), (AV.dat (D.int IntKind.i64 x6.1)), (AV.dat (D.list LK.nil 0 ([] : Row)))]))] [(Ent.obj [x10.2.1, (AV.dat (D.int IntKind.i64 x10.2.2))]), (Ent.obj [(AV.ptr (Ref.glob 0) 0), (AV.dat (D.bool (decide (x7.1 > (1 : Int)))))])] 0))) fun x11 =>
                (rAsk x11.2.2.2.2.2.2.2.2
                 (some ((AV.tup [(AV.agg [(AV.dat (D.int IntKind.i64 (0 : Int))), (AV.dat (D.int IntKind.i64 (0 : Int))), (AV.dat (D.int IntKind.i64 (0 : Int))), (AV.dat (D.int IntKind.i64 (0 : Int))), (AV.dat (D.str (ByteArray.mk (List.toArray [])))), (AV.dat (D.int IntKind.i64 (0 : Int))), (AV.dat (D.list LK.nil 0 ([] : Row)))]), (AV.dat (D.int IntKind.i64 (0 : Int))), (AV.dat (D.int IntKind.i64 (6 : Int)))]), [(Ent.obj [x11.2.2.2.2.2.2.1, (AV.dat (D.int IntKind.i64 x11.2.2.2.2.2.2.2.1))]), (Ent.obj [(AV.ptr (Ref.glob 0) 0), (AV.dat (D.bool x11.2.2.2.2.2.2.2.2))])]))
                 (rAsk (x11.2.2.2.2.2.2.2.1 != (0 : Int))
                  (some ((AV.tup [(AV.agg [(AV.dat (D.int IntKind.i64 (0 : Int))), (AV.dat (D.int IntKind.i64 (0 : Int))), (AV.dat (D.int IntKind.i64 (0 : Int))), (AV.dat (D.int IntKind.i64 (0 : Int))), (AV.dat (D.str (ByteArray.mk (List.toArray [])))), (AV.dat (D.int IntKind.i64 (0 : Int))), (AV.dat (D.list LK.nil 0 ([] : Row)))]), (AV.dat (D.int IntKind.i64 (0 : Int))), (AV.dat (D.int IntKind.i64 (7 : Int)))]), [(Ent.obj [x11.2.2.2.2.2.2.1, (AV.dat (D.int IntKind.i64 x11.2.2.2.2.2.2.2.1))]), (Ent.obj [(AV.ptr (Ref.glob 0) 0), (AV.dat (D.bool x11.2.2.2.2.2.2.2.2))])]))
                  (rGet (fnS (fun (n : Int) => ((AV.dat (D.int IntKind.i64 n)), [(Ent.obj [x11.2.2.2.2.2.2.1, (AV.dat (D.int IntKind.i64 x11.2.2.2.2.2.2.2.1))]), (Ent.obj [(AV.ptr (Ref.glob 0) 0), (AV.dat (D.bool x11.2.2.2.2.2.2.2.2))])])) (R47 [(AV.ptr (Ref.glob 0) 0)] [(Ent.obj [x11.2.2.2.2.2.2.1, (AV.dat (D.int IntKind.i64 x11.2.2.2.2.2.2.2.1))]), (Ent.obj [(AV.ptr (Ref.glob 0) 0), (AV.dat (D.bool x11.2.2.2.2.2.2.2.2))])])) fun x12 =>
                   (some ((AV.tup [(AV.agg [(AV.dat (D.int IntKind.i64 x11.1)), (AV.dat (D.int IntKind.i64 x11.2.1)), (AV.dat (D.int IntKind.i64 x11.2.2.1)), (AV.dat (D.int IntKind.i64 x11.2.2.2.1)), (AV.dat (D.str x11.2.2.2.2.1)), (AV.dat (D.int IntKind.i64 x11.2.2.2.2.2.1)), (AV.dat (D.list LK.nil 0 ([] : Row)))]), (AV.dat (D.int IntKind.i64 (IntKind.wrap IntKind.i64 ((((List.length xs) : Nat) : Int) - x12)))), (AV.dat (D.int IntKind.i64 (0 : Int)))]), [(Ent.obj [x11.2.2.2.2.2.2.1, (AV.dat (D.int IntKind.i64 x11.2.2.2.2.2.2.2.1))]), (Ent.obj [(AV.ptr (Ref.glob 0) 0), (AV.dat (D.bool x11.2.2.2.2.2.2.2.2))])]))
                  )
                 )
                )
               )
               (rGet (loS TT (TOrc.runs (tY 3)) (HSa 23) lp23 (out23b k xs) (St.mk (mkT 0 66 [(0, (AV.dat (D.list k 1 xs))), (2, (AV.ptr (Ref.loc 0) 0)), (5, (AV.ptr (Ref.glob 1) 0)), (6, (AV.ptr (Ref.loc 1) 0)), (7, (AV.dat (D.int IntKind.i64 x10.1)))]) (Mem.mk [(Option.some (Ent.obj [(AV.dat (D.int IntKind.i64 (0 : Int))), (AV.dat (D.int IntKind.i64 (0 : Int))), (AV.dat (D.int IntKind.i64 (0 : Int))), (AV.dat (D.int IntKind.i64 (0 : Int))), (AV.dat (D.str (ByteArray.mk (List.toArray [])))), (AV.dat (D.int IntKind.i64 (0 : Int))), (AV.dat (D.list LK.nil 0 ([] : Row)))])), (Option.some (Ent.obj [(AV.dat (D.int IntKind.i64 x2.1)), (AV.dat (D.int IntKind.i64 x3.1)), (AV.dat (D.int IntKind.i64 x4.1)), (AV.dat (D.int IntKind.i64 x5.1)), (AV.dat (D.str (ByteArray.mk (List.toArray x9)))), (AV.dat (D.int IntKind.i64 x6.1)), (AV.dat (D.list LK.nil 0 ([] : Row)))]))] [(Ent.obj [x10.2.1, (AV.dat (D.int IntKind.i64 x10.2.2))]), (Ent.obj [(AV.ptr (Ref.glob 0) 0), (AV.dat (D.bool (decide (x7.1 > (1 : Int)))))])] 0))) fun x13 =>
                (rAsk x13.2.2.2.2.2.2.2.2.1
                 (some ((AV.tup [(AV.agg [(AV.dat (D.int IntKind.i64 (0 : Int))), (AV.dat (D.int IntKind.i64 (0 : Int))), (AV.dat (D.int IntKind.i64 (0 : Int))), (AV.dat (D.int IntKind.i64 (0 : Int))), (AV.dat (D.str (ByteArray.mk (List.toArray [])))), (AV.dat (D.int IntKind.i64 (0 : Int))), (AV.dat (D.list LK.nil 0 ([] : Row)))]), (AV.dat (D.int IntKind.i64 (0 : Int))), (AV.dat (D.int IntKind.i64 (6 : Int)))]), [(Ent.obj [x13.2.2.2.2.2.2.1, (AV.dat (D.int IntKind.i64 x13.2.2.2.2.2.2.2.1))]), (Ent.obj [(AV.ptr (Ref.glob 0) 0), (AV.dat (D.bool x13.2.2.2.2.2.2.2.2.1))])]))
                 (rAsk (x13.2.2.2.2.2.2.2.1 != (0 : Int))
                  (some ((AV.tup [(AV.agg [(AV.dat (D.int IntKind.i64 (0 : Int))), (AV.dat (D.int IntKind.i64 (0 : Int))), (AV.dat (D.int IntKind.i64 (0 : Int))), (AV.dat (D.int IntKind.i64 (0 : Int))), (AV.dat (D.str (ByteArray.mk (List.toArray [])))), (AV.dat (D.int IntKind.i64 (0 : Int))), (AV.dat (D.list LK.nil 0 ([] : Row)))]), (AV.dat (D.int IntKind.i64 (0 : Int))), (AV.dat (D.int IntKind.i64 (7 : Int)))]), [(Ent.obj [x13.2.2.2.2.2.2.1, (AV.dat (D.int IntKind.i64 x13.2.2.2.2.2.2.2.1))]), (Ent.obj [(AV.ptr (Ref.glob 0) 0), (AV.dat (D.bool x13.2.2.2.2.2.2.2.2.1))])]))
                  (rGet (fnS (fun (n : Int) => ((AV.dat (D.int IntKind.i64 n)), [(Ent.obj [x13.2.2.2.2.2.2.1, (AV.dat (D.int IntKind.i64 x13.2.2.2.2.2.2.2.1))]), (Ent.obj [(AV.ptr (Ref.glob 0) 0), (AV.dat (D.bool x13.2.2.2.2.2.2.2.2.1))])])) (R47 [(AV.ptr (Ref.glob 0) 0)] [(Ent.obj [x13.2.2.2.2.2.2.1, (AV.dat (D.int IntKind.i64 x13.2.2.2.2.2.2.2.1))]), (Ent.obj [(AV.ptr (Ref.glob 0) 0), (AV.dat (D.bool x13.2.2.2.2.2.2.2.2.1))])])) fun x14 =>
                   (some ((AV.tup [(AV.agg [(AV.dat (D.int IntKind.i64 x13.1)), (AV.dat (D.int IntKind.i64 x13.2.1)), (AV.dat (D.int IntKind.i64 x13.2.2.1)), (AV.dat (D.int IntKind.i64 x13.2.2.2.1)), (AV.dat (D.str x13.2.2.2.2.1)), (AV.dat (D.int IntKind.i64 x13.2.2.2.2.2.1)), (AV.dat (D.list LK.any 1 (List.take (List.length x13.2.2.2.2.2.2.2.2.2) (List.drop 0 x13.2.2.2.2.2.2.2.2.2))))]), (AV.dat (D.int IntKind.i64 (IntKind.wrap IntKind.i64 ((((List.length xs) : Nat) : Int) - x14)))), (AV.dat (D.int IntKind.i64 (0 : Int)))]), [(Ent.obj [x13.2.2.2.2.2.2.1, (AV.dat (D.int IntKind.i64 x13.2.2.2.2.2.2.2.1))]), (Ent.obj [(AV.ptr (Ref.glob 0) 0), (AV.dat (D.bool x13.2.2.2.2.2.2.2.2.1))])]))
                  )
                 )
                )
               )
              )
             )
            )
           )
           (rGet (fnS (fun (p : AV × Int) => ((AV.dat (D.list LK.nil 0 ([] : Row))), [(Ent.obj [p.1, (AV.dat (D.int IntKind.i64 p.2))]), (Ent.obj [(AV.ptr (Ref.glob 0) 0), (AV.dat (D.bool (decide (x7.1 > (1 : Int)))))])])) (R45 [(AV.ptr (Ref.glob 0) 0), (AV.dat (D.int IntKind.i64 (64 : Int)))] [(Ent.obj [x7.2.1, (AV.dat (D.int IntKind.i64 x7.2.2))]), (Ent.obj [(AV.ptr (Ref.glob 0) 0), (AV.dat (D.bool (decide (x7.1 > (1 : Int)))))])])) fun x15 =>
            (rGet (fnS (fun (p : Int × AV × Int) => ((AV.dat (D.int IntKind.i64 p.1)), [(Ent.obj [p.2.1, (AV.dat (D.int IntKind.i64 p.2.2))]), (Ent.obj [(AV.ptr (Ref.glob 0) 0), (AV.dat (D.bool (decide (x7.1 > (1 : Int)))))])])) (R43 [(AV.ptr (Ref.glob 1) 0), (AV.dat (D.int IntKind.i64 (1 : Int)))] [(Ent.obj [x15.1, (AV.dat (D.int IntKind.i64 x15.2))]), (Ent.obj [(AV.ptr (Ref.glob 0) 0), (AV.dat (D.bool (decide (x7.1 > (1 : Int)))))])])) fun x16 =>
             (rAsk (Option.isSome (loS TT (TOrc.runs (tY 3)) (HSa 23) lp23 (out23a k xs) (St.mk (mkT 0 66 [(0, (AV.dat (D.list k 1 xs))), (2, (AV.ptr (Ref.loc 0) 0)), (5, (AV.ptr (Ref.glob 1) 0)), (6, (AV.ptr (Ref.loc 1) 0)), (7, (AV.dat (D.int IntKind.i64 x16.1)))]) (Mem.mk [(Option.some (Ent.obj [(AV.dat (D.int IntKind.i64 (0 : Int))), (AV.dat (D.int IntKind.i64 (0 : Int))), (AV.dat (D.int IntKind.i64 (0 : Int))), (AV.dat (D.int IntKind.i64 (0 : Int))), (AV.dat (D.str (ByteArray.mk (List.toArray [])))), (AV.dat (D.int IntKind.i64 (0 : Int))), (AV.dat (D.list LK.nil 0 ([] : Row)))])), (Option.some (Ent.obj [(AV.dat (D.int IntKind.i64 x2.1)), (AV.dat (D.int IntKind.i64 x3.1)), (AV.dat (D.int IntKind.i64 x4.1)), (AV.dat (D.int IntKind.i64 x5.1)), (AV.dat (D.str (ByteArray.mk (List.toArray [])))), (AV.dat (D.int IntKind.i64 x6.1)), (AV.dat (D.list LK.nil 0 ([] : Row)))]))] [(Ent.obj [x16.2.1, (AV.dat (D.int IntKind.i64 x16.2.2))]), (Ent.obj [(AV.ptr (Ref.glob 0) 0), (AV.dat (D.bool (decide (x7.1 > (1 : Int)))))])] 0))))
              (rGet (loS TT (TOrc.runs (tY 3)) (HSa 23) lp23 (out23a k xs) (St.mk (mkT 0 66 [(0, (AV.dat (D.list k 1 xs))), (2, (AV.ptr (Ref.loc 0) 0)), (5, (AV.ptr (Ref.glob 1) 0)), (6, (AV.ptr (Ref.loc 1) 0)), (7, (AV.dat (D.int IntKind.i64 x16.1)))]) (Mem.mk [(Option.some (Ent.obj [(AV.dat (D.int IntKind.i64 (0 : Int))), (AV.dat (D.int IntKind.i64 (0 : Int))), (AV.dat (D.int IntKind.i64 (0 : Int))), (AV.dat (D.int IntKind.i64 (0 : Int))), (AV.dat (D.str (ByteArray.mk (List.toArray [])))), (AV.dat (D.int IntKind.i64 (0 : Int))), (AV.dat (D.list LK.nil 0 ([] : Row)))])), (Option.some (Ent.obj [(AV.dat (D.int IntKind.i64 x2.1)), (AV.dat (D.int IntKind.i64 x3.1)), (AV.dat (D.int IntKind.i64 x4.1)), (AV.dat (D.int IntKind.i64 x5.1)), (AV.dat (D.str (ByteArray.mk (List.toArray [])))), (AV.dat (D.int IntKind.i64 x6.1)), (AV.dat (D.list LK.nil 0 ([] : Row)))]))] [(Ent.obj [x16.2.1, (AV.dat (D.int IntKind.i64 x16.2.2))]), (Ent.obj [(AV.ptr (Ref.glob 0) 0), (AV.dat (D.bool (decide (x7.1 > (1 : Int)))))])] 0))) fun x17 =>
               (rAsk x17.2.2.2.2.2.2.2.2
                (some ((AV.tup [(AV.agg [(AV.dat (D.int IntKind.i64 (0 : Int))), (AV.dat (D.int IntKind.i64 (0 : Int))), (AV.dat (D.int IntKind.i64 (0 : Int))), (AV.dat (D.int IntKind.i64 (0 : Int))), (AV.dat (D.str (ByteArray.mk (List.toArray [])))), (AV.dat (D.int IntKind.i64 (0 : Int))), (AV.dat (D.list LK.nil 0 ([] : Row)))]), (AV.dat (D.int IntKind.i64 (0 : Int))), (AV.dat (D.int IntKind.i64 (6 : Int)))]), [(Ent.obj [x17.2.2.2.2.2.2.1, (AV.dat (D.int IntKind.i64 x17.2.2.2.2.2.2.2.1))]), (Ent.obj [(AV.ptr (Ref.glob 0) 0), (AV.dat (D.bool x17.2.2.2.2.2.2.2.2))])]))
                (rAsk (x17.2.2.2.2.2.2.2.1 != (0 : Int))
                 (some ((AV.tup [(AV.agg [(AV.dat (D.int IntKind.i64 (0 : Int))), (AV.dat (D.int IntKind.i64 (0 : Int))), (AV.dat (D.int IntKind.i64 (0 : Int))), (AV.dat (D.int IntKind.i64 (0 : Int))), (AV.dat (D.str (ByteArray.mk (List.toArray [])))), (AV.dat (D.int IntKind.i64 (0 : Int))), (AV.dat (D.list LK.nil 0 ([] : Row)))]), (AV.dat (D.int IntKind.i64 (0 : Int))), (AV.dat (D.int IntKind.i64 (7 : Int)))]), [(Ent.obj [x17.2.2.2.2.2.2.1, (AV.dat (D.int IntKind.i64 x17.2.2.2.2.2.2.2.1))]), (Ent.obj [(AV.ptr (Ref.glob 0) 0), (AV.dat (D.bool x17.2.2.2.2.2.2.2.2))])]))
                 (rGet (fnS (fun (n : Int) => ((AV.dat (D.int IntKind.i64 n)), [(Ent.obj [x17.2.2.2.2.2.2.1, (AV.dat (D.int IntKind.i64 x17.2.2.2.2.2.2.2.1))]), (Ent.obj [(AV.ptr (Ref.glob 0) 0), (AV.dat (D.bool x17.2.2.2.2.2.2.2.2))])])) (R47 [(AV.ptr (Ref.glob 0) 0)] [(Ent.obj [x17.2.2.2.2.2.2.1, (AV.dat (D.int IntKind.i64 x17.2.2.2.2.2.2.2.1))]), (Ent.obj [(AV.ptr (Ref.glob 0) 0), (AV.dat (D.bool x17.2.2.2.2.2.2.2.2))])])) fun x18 =>
                  (some ((AV.tup [(AV.agg [(AV.dat (D.int IntKind.i64 x17.1)), (AV.dat (D.int IntKind.i64 x17.2.1)), (AV.dat (D.int IntKind.i64 x17.2.2.1)), (AV.dat (D.int IntKind.i64 x17.2.2.2.1)), (AV.dat (D.str x17.2.2.2.2.1)), (AV.dat (D.int IntKind.i64 x17.2.2.2.2.2.1)), (AV.dat (D.list LK.nil 0 ([] : Row)))]), (AV.dat (D.int IntKind.i64 (IntKind.wrap IntKind.i64 ((((List.length xs) : Nat) : Int) - x18)))), (AV.dat (D.int IntKind.i64 (0 : Int)))]), [(Ent.obj [x17.2.2.2.2.2.2.1, (AV.dat (D.int IntKind.i64 x17.2.2.2.2.2.2.2.1))]), (Ent.obj [(AV.ptr (Ref.glob 0) 0), (AV.dat (D.bool x17.2.2.2.2.2.2.2.2))])]))
                 )
                )
               )
              )
              (rGet (loS TT (TOrc.runs (tY 3)) (HSa 23) lp23 (out23b k xs) (St.mk (mkT 0 66 [(0, (AV.dat (D.list k 1 xs))), (2, (AV.ptr (Ref.loc 0) 0)), (5, (AV.ptr (Ref.glob 1) 0)), (6, (AV.ptr (Ref.loc 1) 0)), (7, (AV.dat (D.int IntKind.i64 x16.1)))]) (Mem.mk [(Option.some (Ent.obj [(AV.dat (D.int IntKind.i64 (0 : Int))), (AV.dat (D.int IntKind.i64 (0 : Int))), (AV.dat (D.int IntKind.i64 (0 : Int))), (AV.dat (D.int IntKind.i64 (0 : Int))), (AV.dat (D.str (ByteArray.mk (List.toArray [])))), (AV.dat (D.int IntKind.i64 (0 : Int))), (AV.dat (D.list LK.nil 0 ([] : Row)))])), (Option.some (Ent.obj [(AV.dat (D.int IntKind.i64 x2.1)), (AV.dat (D.int IntKind.i64 x3.1)), (AV.dat (D.int IntKind.i64 x4.1)), (AV.dat (D.int IntKind.i64 x5.1)), (AV.dat (D.str (ByteArray.mk (List.toArray [])))), (AV.dat (D.int IntKind.i64 x6.1)), (AV.dat (D.list LK.nil 0 ([] : Row)))]))] [(Ent.obj [x16.2.1, (AV.dat (D.int IntKind.i64 x16.2.2))]), (Ent.obj [(AV.ptr (Ref.glob 0) 0), (AV.dat (D.bool (decide (x7.1 > (1 : Int)))))])] 0))) fun x19 =>
               (rAsk x19.2.2.2.2.2.2.2.2.1
                (some ((AV.tup [(AV.agg [(AV.dat (D.int IntKind.i64 (0 : Int))), (AV.dat (D.int IntKind.i64 (0 : Int))), (AV.dat (D.int IntKind.i64 (0 : Int))), (AV.dat (D.int IntKind.i64 (0 : Int))), (AV.dat (D.str (ByteArray.mk (List.toArray [])))), (AV.dat (D.int IntKind.i64 (0 : Int))), (AV.dat (D.list LK.nil 0 ([] : Row)))]), (AV.dat (D.int IntKind.i64 (0 : Int))), (AV.dat (D.int IntKind.i64 (6 : Int)))]), [(Ent.obj [x19.2.2.2.2.2.2.1, (AV.dat (D.int IntKind.i64 x19.2.2.2.2.2.2.2.1))]), (Ent.obj [(AV.ptr (Ref.glob 0) 0), (AV.dat (D.bool x19.2.2.2.2.2.2.2.2.1))])]))
                (rAsk (x19.2.2.2.2.2.2.2.1 != (0 : Int))
                 (some ((AV.tup [(AV.agg [(AV.dat (D.int IntKind.i64 (0 : Int))), (AV.dat (D.int IntKind.i64 (0 : Int))), (AV.dat (D.int IntKind.i64 (0 : Int))), (AV.dat (D.int IntKind.i64 (0 : Int))), (AV.dat (D.str (ByteArray.mk (List.toArray [])))), (AV.dat (D.int IntKind.i64 (0 : Int))), (AV.dat (D.list LK.nil 0 ([] : Row)))]), (AV.dat (D.int IntKind.i64 (0 : Int))), (AV.dat (D.int IntKind.i64 (7 : Int)))]), [(Ent.obj [x19.2.2.2.2.2.2.1, (AV.dat (D.int IntKind.i64 x19.2.2.2.2.2.2.2.1))]), (Ent.obj [(AV.ptr (Ref.glob 0) 0), (AV.dat (D.bool x19.2.2.2.2.2.2.2.2.1))])]))
                 (rGet (fnS (fun (n : Int) => ((AV.dat (D.int IntKind.i64 n)), [(Ent.obj [x19.2.2.2.2.2.2.1, (AV.dat (D.int IntKind.i64 x19.2.2.2.2.2.2.2.1))]), (Ent.obj [(AV.ptr (Ref.glob 0) 0), (AV.dat (D.bool x19.2.2.2.2.2.2.2.2.1))])])) (R47 [(AV.ptr (Ref.glob 0) 0)] [(Ent.obj [x19.2.2.2.2.2.2.1, (AV.dat (D.int IntKind.i64 x19.2.2.2.2.2.2.2.1))]), (Ent.obj [(AV.ptr (Ref.glob 0) 0), (AV.dat (D.bool x19.2.2.2.2.2.2.2.2.1))])])) fun x20 =>
                  (some ((AV.tup [(AV.agg [(AV.dat (D.int IntKind.i64 x19.1)), (AV.dat (D.int IntKind.i64 x19.2.1)), (AV.dat (D.int IntKind.i64 x19.2.2.1)), (AV.dat (D.int IntKind.i64 x19.2.2.2.1)), (AV.dat (D.str x19.2.2.2.2.1)), (AV.dat (D.int IntKind.i64 x19.2.2.2.2.2.1)), (AV.dat (D.list LK.any 1 (List.take (List.length x19.2.2.2.2.2.2.2.2.2) (List.drop 0 x19.2.2.2.2.2.2.2.2.2))))]), (AV.dat (D.int IntKind.i64 (IntKind.wrap IntKind.i64 ((((List.length xs) : Nat) : Int) - x20)))), (AV.dat (D.int IntKind.i64 (0 : Int)))]), [(Ent.obj [x19.2.2.2.2.2.2.1, (AV.dat (D.int IntKind.i64 x19.2.2.2.2.2.2.2.1))]), (Ent.obj [(AV.ptr (Ref.glob 0) 0), (AV.dat (D.bool x19.2.2.2.2.2.2.2.2.1))])]))
                 )
                )
               )
              )
             )
            )
           )
          )
          (rGet (fnS (fun (p : Int × AV × Int) => ((AV.dat (D.int IntKind.i64 p.1)), [(Ent.obj [p.2.1, (AV.dat (D.int IntKind.i64 p.2.2))]), (Ent.obj [(AV.ptr (Ref.glob 0) 0), (AV.dat (D.bool (decide (x7.1 > (1 : Int)))))])])) (R43 [(AV.ptr (Ref.glob 1) 0), (AV.dat (D.int IntKind.i64 (1 : Int)))] [(Ent.obj [x7.2.1, (AV.dat (D.int IntKind.i64 x7.2.2))]), (Ent.obj [(AV.ptr (Ref.glob 0) 0), (AV.dat (D.bool (decide (x7.1 > (1 : Int)))))])])) fun x21 =>
           (rAsk (Option.isSome (loS TT (TOrc.runs (tY 3)) (HSa 23) lp23 (out23a k xs) (St.mk (mkT 0 66 [(0, (AV.dat (D.list k 1 xs))), (2, (AV.ptr (Ref.loc 0) 0)), (5, (AV.ptr (Ref.glob 1) 0)), (6, (AV.ptr (Ref.loc 1) 0)), (7, (AV.dat (D.int IntKind.i64 x21.1)))]) (Mem.mk [(Option.some (Ent.obj [(AV.dat (D.int IntKind.i64 (0 : Int))), (AV.dat (D.int IntKind.i64 (0 : Int))), (AV.dat (D.int IntKind.i64 (0 : Int))), (AV.dat (D.int IntKind.i64 (0 : Int))), (AV.dat (D.str (ByteArray.mk (List.toArray [])))), (AV.dat (D.int IntKind.i64 (0 : Int))), (AV.dat (D.list LK.nil 0 ([] : Row)))])), (Option.some (Ent.obj [(AV.dat (D.int IntKind.i64 x2.1)), (AV.dat (D.int IntKind.i64 x3.1)), (AV.dat (D.int IntKind.i64 x4.1)), (AV.dat (D.int IntKind.i64 x5.1)), (AV.dat (D.str (ByteArray.mk (List.toArray [])))), (AV.dat (D.int IntKind.i64 x6.1)), (AV.dat (D.list LK.nil 0 ([] : Row)))]))] [(Ent.obj [x21.2.1, (AV.dat (D.int IntKind.i64 x21.2.2))]), (Ent.obj [(AV.ptr (Ref.glob 0) 0), (AV.dat (D.bool (decide (x7.1 > (1 : Int)))))])] 0))))
            (rGet (loS TT (TOrc.runs (tY 3)) (HSa 23) lp23 (out23a k xs) (St.mk (mkT 0 66 [(0, (AV.dat (D.list k 1 xs))), (2, (AV.ptr (Ref.loc 0) 0)), (5, (AV.ptr (Ref.glob 1) 0)), (6, (AV.ptr (Ref.loc 1) 0)), (7, (AV.dat (D.int IntKind.i64 x21.1)))]) (Mem.mk [(Option.some (Ent.obj [(AV.dat (D.int IntKind.i64 (0 : Int))), (AV.dat (D.int IntKind.i64 (0 : Int))), (AV.dat (D.int IntKind.i64 (0 : Int))), (AV.dat (D.int IntKind.i64 (0 : Int))), (AV.dat (D.str (ByteArray.mk (List.toArray [])))), (AV.dat (D.int IntKind.i64 (0 : Int))), (AV.dat (D.list LK.nil 0 ([] : Row)))])), (Option.some (Ent.obj [(AV.dat (D.int IntKind.i64 x2.1)), (AV.dat (D.int IntKind.i64 x3.1)), (AV.dat (D.int IntKind.i64 x4.1)), (AV.dat (D.int IntKind.i64 x5.1)), (AV.dat (D.str (ByteArray.mk (List.toArray [])))), (AV.dat (D.int IntKind.i64 x6.1)), (AV.dat (D.list LK.nil 0 ([] : Row)))]))] [(Ent.obj [x21.2.1, (AV.dat (D.int IntKind.i64 x21.2.2))]), (Ent.obj [(AV.ptr (Ref.glob 0) 0), (AV.dat (D.bool (decide (x7.1 > (1 : Int)))))])] 0))) fun x22 =>
             (rAsk x22.2.2.2.2.2.2.2.2
              (some ((AV.tup [(AV.agg [(AV.dat (D.int IntKind.i64 (0 : Int))), (AV.dat (D.int IntKind.i64 (0 : Int))), (AV.dat (D.int IntKind.i64 (0 : Int))), (AV.dat (D.int IntKind.i64 (0 : Int))), (AV.dat (D.str (ByteArray.mk (List.toArray [])))), (AV.dat (D.int IntKind.i64 (0 : Int))), (AV.dat (D.list LK.nil 0 ([] : Row)))]), (AV.dat (D.int IntKind.i64 (0 : Int))), (AV.dat (D.int IntKind.i64 (6 : Int)))]), [(Ent.obj [x22.2.2.2.2.2.2.1, (AV.dat (D.int IntKind.i64 x22.2.2.2.2.2.2.2.1))]), (Ent.obj [(AV.ptr (Ref.glob 0) 0), (AV.dat (D.bool x22.2.2.2.2.2.2.2.2))])]))
              (rAsk (x22.2.2.2.2.2.2.2.1 != (0 : Int))
               (some ((AV.tup [(AV.agg [(AV.dat (D.int IntKind.i64 (0 : Int))), (AV.dat (D.int IntKind.i64 (0 : Int))), (AV.dat (D.int IntKind.i64 (0 : Int))), (AV.dat (D.int IntKind.i64 (0 : Int))), (AV.dat (D.str (ByteArray.mk (List.toArray [])))), (AV.dat (D.int IntKind.i64 (0 : Int))), (AV.dat (D.list LK.nil 0 ([] : Row)))]), (AV.dat (D.int IntKind.i64 (0 : Int))), (AV.dat (D.int IntKind.i64 (7 : Int)))]), [(Ent.obj [x22.2.2.2.2.2.2.1, (AV.dat (D.int IntKind.i64 x22.2.2.2.2.2.2.2.1))]), (Ent.obj [(AV.ptr (Ref.glob 0) 0), (AV.dat (D.bool x22.2.2.2.2.2.2.2.2))])]))
               (rGet (fnS (fun (n : Int) => ((AV.dat (D.int IntKind.i64 n)), [(Ent.obj [x22.2.2.2.2.2.2.1, (AV.dat (D.int IntKind.i64 x22.2.2.2.2.2.2.2.1))]), (Ent.obj [(AV.ptr (Ref.glob 0) 0), (AV.dat (D.bool x22.2.2.2.2.2.2.2.2))])])) (R47 [(AV.ptr (Ref.glob 0) 0)] [(Ent.obj [x22.2.2.2.2.2.2.1, (AV.dat (D.int IntKind.i64 x22.2.2.2.2.2.2.2.1))]), (Ent.obj [(AV.ptr (Ref.glob 0) 0), (AV.dat (D.bool x22.2.2.2.2.2.2.2.2))])])) fun x23 =>
                (some ((AV.tup [(AV.agg [(AV.dat (D.int IntKind.i64 x22.1)), (AV.dat (D.int IntKind.i64 x22.2.1)), (AV.dat (D.int IntKind.i64 x22.2.2.1)), (AV.dat (D.int IntKind.i64 x22.2.2.2.1)), (AV.dat (D.str x22.2.2.2.2.1)), (AV.dat (D.int IntKind.i64 x22.2.2.2.2.2.1)), (AV.dat (D.list LK.nil 0 ([] : Row)))]), (AV.dat (D.int IntKind.i64 (IntKind.wrap IntKind.i64 ((((List.length xs) : Nat) : Int) - x23)))), (AV.dat (D.int IntKind.i64 (0 : Int)))]), [(Ent.obj [x22.2.2.2.2.2.2.1, (AV.dat (D.int IntKind.i64 x22.2.2.2.2.2.2.2.1))]), (Ent.obj [(AV.ptr (Ref.glob 0) 0), (AV.dat (D.bool x22.2.2.2.2.2.2.2.2))])]))
               )
              )
             )
            )
            (rGet (loS TT (TOrc.runs (tY 3)) (HSa 23) lp23 (out23b k xs) (St.mk (mkT 0 66 [(0, (AV.dat (D.list k 1 xs))), (2, (AV.ptr (Ref.loc 0) 0)), (5, (AV.ptr (Ref.glob 1) 0)), (6, (AV.ptr (Ref.loc 1) 0)), (7, (AV.dat (D.int IntKind.i64 x21.1)))]) (Mem.mk [(Option.some (Ent.obj [(AV.dat (D.int IntKind.i64 (0 : Int))), (AV.dat (D.int IntKind.i64 (0 : Int))), (AV.dat (D.int IntKind.i64 (0 : Int))), (AV.dat (D.int IntKind.i64 (0 : Int))), (AV.dat (D.str (ByteArray.mk (List.toArray [])))), (AV.dat (D.int IntKind.i64 (0 : Int))), (AV.dat (D.list LK.nil 0 ([] : Row)))])), (Option.some (Ent.obj [(AV.dat (D.int IntKind.i64 x2.1)), (AV.dat (D.int IntKind.i64 x3.1)), (AV.dat (D.int IntKind.i64 x4.1)), (AV.dat (D.int IntKind.i64 x5.1)), (AV.dat (D.str (ByteArray.mk (List.toArray [])))), (AV.dat (D.int IntKind.i64 x6.1)), (AV.dat (D.list LK.nil 0 ([] : Row)))]))] [(Ent.obj [x21.2.1, (AV.dat (D.int IntKind.i64 x21.2.2))]), (Ent.obj [(AV.ptr (Ref.glob 0) 0), (AV.dat (D.bool (decide (x7.1 > (1 : Int)))))])] 0))) fun x24 =>
             (rAsk x24.2.2.2.2.2.2.2.2.1
              (some ((AV.tup [(AV.agg [(AV.dat (D.int IntKind.i64 (0 : Int))), (AV.dat (D.int IntKind.i64 (0 : Int))), (AV.dat (D.int IntKind.i64 (0 : Int))), (AV.dat (D.int IntKind.i64 (0 : Int))), (AV.dat (D.str (ByteArray.mk (List.toArray [])))), (AV.dat (D.int IntKind.i64 (0 : Int))), (AV.dat (D.list LK.nil 0 ([] : Row)))]), (AV.dat (D.int IntKind.i64 (0 : Int))), (AV.dat (D.int IntKind.i64 (6 : Int)))]), [(Ent.obj [x24.2.2.2.2.2.2.1, (AV.dat (D.int IntKind.i64 x24.2.2.2.2.2.2.2.1))]), (Ent.obj [(AV.ptr (Ref.glob 0) 0), (AV.dat (D.bool x24.2.2.2.2.2.2.2.2.1))])]))
              (rAsk (x24.2.2.2.2.2.2.2.1 != (0 : Int))
               (some ((AV.tup [(AV.agg [(AV.dat (D.int IntKind.i64 (0 : Int))), (AV.dat (D.int IntKind.i64 (0 : Int))), (AV.dat (D.int IntKind.i64 (0 : Int))), (AV.dat (D.int IntKind.i64 (0 : Int))), (AV.dat (D.str (ByteArray.mk (List.toArray [])))), (AV.dat (D.int IntKind.i64 (0 : Int))), (AV.dat (D.list LK.nil 0 ([] : Row)))]), (AV.dat (D.int IntKind.i64 (0 : Int))), (AV.dat (D.int IntKind.i64 (7 : Int)))]), [(Ent.obj [x24.2.2.2.2.2.2.1, (AV.dat (D.int IntKind.i64 x24.2.2.2.2.2.2.2.1))]), (Ent.obj [(AV.ptr (Ref.glob 0) 0), (AV.dat (D.bool x24.2.2.2.2.2.2.2.2.1))])]))
               (rGet (fnS (fun (n : Int) => ((AV.dat (D.int IntKind.i64 n)), [(Ent.obj [x24.2.2.2.2.2.2.1, (AV.dat (D.int IntKind.i64 x24.2.2.2.2.2.2.2.1))]), (Ent.obj [(AV.ptr (Ref.glob 0) 0), (AV.dat (D.bool x24.2.2.2.2.2.2.2.2.1))])])) (R47 [(AV.ptr (Ref.glob 0) 0)] [(Ent.obj [x24.2.2.2.2.2.2.1, (AV.dat (D.int IntKind.i64 x24.2.2.2.2.2.2.2.1))]), (Ent.obj [(AV.ptr (Ref.glob 0) 0), (AV.dat (D.bool x24.2.2.2.2.2.2.2.2.1))])])) fun x25 =>
                (some ((AV.tup [(AV.agg [(AV.dat (D.int IntKind.i64 x24.1)), (AV.dat (D.int IntKind.i64 x24.2.1)), (AV.dat (D.int IntKind.i64 x24.2.2.1)), (AV.dat (D.int IntKind.i64 x24.2.2.2.1)), (AV.dat (D.str x24.2.2.2.2.1)), (AV.dat (D.int IntKind.i64 x24.2.2.2.2.2.1)), (AV.dat (D.list LK.any 1 (List.take (List.length x24.2.2.2.2.2.2.2.2.2) (List.drop 0 x24.2.2.2.2.2.2.2.2.2))))]), (AV.dat (D.int IntKind.i64 (IntKind.wrap IntKind.i64 ((((List.length xs) : Nat) : Int) - x25)))), (AV.dat (D.int IntKind.i64 (0 : Int)))]), [(Ent.obj [x24.2.2.2.2.2.2.1, (AV.dat (D.int IntKind.i64 x24.2.2.2.2.2.2.2.1))]), (Ent.obj [(AV.ptr (Ref.glob 0) 0), (AV.dat (D.bool x24.2.2.2.2.2.2.2.2.1))])]))
               )
              )
             )
            )
           )
          )
         )
        )
       )
      )
     )
    )
   )
  )
  := by kernel_rfl

/-- so many truths -/
def keepS : Nat → RS → Bool → List Bool × RS × Bool
  | 0, s, wr => ([], s, wr)
  | m + 1, s, wr => if wr = false ∧ s.2 = 0 then
      ((numS 1 s).1 == 1) :: (keepS m (numS 1 s).2 (decide ((numS 1 s).1 > 1))).1 |> fun l => (l, (keepS m (numS 1 s).2 (decide ((numS 1 s).1 > 1))).2)
    else ([], s, wr)

theorem keepS_go {m : Nat} {s : RS} (h : s.2 = 0) : keepS (m + 1) s false = (((numS 1 s).1 == 1) :: (keepS m (numS 1 s).2 (decide ((numS 1 s).1 > 1))).1, (keepS m (numS 1 s).2 (decide ((numS 1 s).1 > 1))).2) := by simp [keepS, h]
theorem keepS_stop {m : Nat} {s : RS} {wr : Bool} (h : ¬ (wr = false ∧ s.2 = 0)) : keepS m s wr = ([], s, wr) := by
  cases m with
  | zero => rfl
  | succ m => simp only [keepS, if_neg h]
theorem keepS_len {s : RS} {wr : Bool} : ∀ m, (keepS m s wr).1.length ≤ m := by
  intro m
  induction m generalizing s wr with
  | zero => simp [keepS]
  | succ m ih =>
    by_cases h : wr = false ∧ s.2 = 0
    · obtain ⟨rfl, h⟩ := h
      rw [keepS_go h]
      have := @ih (numS 1 s).2 (decide ((numS 1 s).1 > 1))
      simp
      exact this
    · rw [keepS_stop h]; simp

theorem tRow_append (l r : List Bool) : tRow (l ++ r) = tRow l ++ tRow r := by simp [tRow]

attribute [local irreducible] fnS loS R42 R43 R45 R47


theorem loop23b {k : LK} {xs : Row} {kd nd at' nn : Int} {s : ByteArray} {p : Int} : ∀ (m : Nat) (keep : List Bool) (l : List UInt8) (a : AV) (e : Int) (wr : Bool), Rd l a → l.length ≤ 140737488355328 → keep.length + m ≤ 300 →
    ∃ a', Rd (keepS m (l, e) wr).2.1.1 a' ∧ LoopTo TT (TOrc.runs (tY 3)) (HSa 23) lp23 (inv23b k xs kd nd at' nn s p (tRow keep) m a e wr)
      (out23b k xs (kd, nd, at', nn, s, p, a', (keepS m (l, e) wr).2.1.2, (keepS m (l, e) wr).2.2, tRow (keep ++ (keepS m (l, e) wr).1)))
  | 0, keep, l, a, e, wr, hr, hl, hk => by
    refine ⟨a, hr, ?_⟩
    have : (rk23b k xs kd nd at' nn s p (tRow keep) (0 : Nat) a e wr).run = some (out23b k xs (kd, nd, at', nn, s, p, a, e, wr, tRow keep)) := by
      rw [← Tr.ev_run, rk23b_eq]
      exact aF rfl rfl
    simp only [keepS, List.append_nil]
    exact LoopTo.last (orc := tY 3) (lo := noLo) (fun _ _ _ _ h => h) (LoOk2.no _) this (by simp)
  | m + 1, keep, l, a, e, wr, hr, hl, hk => by
    by_cases hc : wr = false ∧ e = 0
    · obtain ⟨rfl, rfl⟩ := hc
      rw [keepS_go rfl]
      obtain ⟨a1, h1, e1⟩ := c43 (w := 1) (wr := false) (e := 0) hr hl (.inl rfl)
      have hl1 : (numS 1 (l, 0)).2.1.length ≤ 140737488355328 := Nat.le_trans numS_len hl
      obtain ⟨a2, h2, h3⟩ := loop23b (k := k) (xs := xs) (kd := kd) (nd := nd) (at' := at') (nn := nn) (s := s) (p := p) m (keep ++ [(numS 1 (l, 0)).1 == 1]) _ a1 (numS 1 (l, 0)).2.2 (decide ((numS 1 (l, 0)).1 > 1)) h1 hl1 (by simp; omega)
      refine ⟨a2, h2, ?_⟩
      have hw : IntKind.wrap .i64 (((m + 1 : Nat) : Int) - 1) = (m : Int) := by rw [IntKind.wrap_i64]; omega
      have : (rk23b k xs kd nd at' nn s p (tRow keep) (m + 1 : Nat) a 0 false).run = some (.norm, inv23b k xs kd nd at' nn s p (tRow (keep ++ [(numS 1 (l, 0)).1 == 1])) m a1 (numS 1 (l, 0)).2.2 (decide ((numS 1 (l, 0)).1 > 1))) := by
        rw [← Tr.ev_run, rk23b_eq]
        refine aT (by first | with_reducible rfl | with_reducible assumption | (simp only [Bool.and_eq_true, Bool.and_eq_false_iff, Bool.or_eq_true, Bool.true_and, Bool.and_true, decide_eq_true_eq, decide_eq_false_iff_not, Bool.not_eq_true', Bool.not_eq_false', beq_iff_eq, beq_eq_false_iff_ne, bne_iff_ne, bne_eq_false_iff_eq, ne_eq, fits_iff, whole_iff, List.length_append, List.length_map, List.length_cons, List.length_nil, List.length_take, List.length_drop, bRow_length, tRow_length, List.nil_append, Nat.zero_add, Nat.add_zero, Int.toNat_natCast, and_self, and_true, true_and, true_or, or_true, false_or, or_false, not_true_eq_false, not_false_eq_true] <;> omega)) (aF rfl (aF rfl (gStep (fnS_eq (out := out43 _) out43_inj e1) (aF rfl ?_))))
        simp only [tRow_length]
        refine aT (by first | with_reducible rfl | with_reducible assumption | (simp only [Bool.and_eq_true, Bool.and_eq_false_iff, Bool.or_eq_true, Bool.true_and, Bool.and_true, decide_eq_true_eq, decide_eq_false_iff_not, Bool.not_eq_true', Bool.not_eq_false', beq_iff_eq, beq_eq_false_iff_ne, bne_iff_ne, bne_eq_false_iff_eq, ne_eq, fits_iff, whole_iff, List.length_append, List.length_map, List.length_cons, List.length_nil, List.length_take, List.length_drop, bRow_length, tRow_length, List.nil_append, Nat.zero_add, Nat.add_zero, Int.toNat_natCast, and_self, and_true, true_and, true_or, or_true, false_or, or_false, not_true_eq_false, not_false_eq_true, tRow_length] <;> omega)) (aT (by first | with_reducible rfl | with_reducible assumption | (simp only [Bool.and_eq_true, Bool.and_eq_false_iff, Bool.or_eq_true, Bool.true_and, Bool.and_true, decide_eq_true_eq, decide_eq_false_iff_not, Bool.not_eq_true', Bool.not_eq_false', beq_iff_eq, beq_eq_false_iff_ne, bne_iff_ne, bne_eq_false_iff_eq, ne_eq, fits_iff, whole_iff, List.length_append, List.length_map, List.length_cons, List.length_nil, List.length_take, List.length_drop, bRow_length, tRow_length, List.nil_append, Nat.zero_add, Nat.add_zero, Int.toNat_natCast, and_self, and_true, true_and, true_or, or_true, false_or, or_false, not_true_eq_false, not_false_eq_true, tRow_length] <;> omega)) ?_)
        rw [hw]
        simp only [inv23b, tRow_length, tRow_append, List.length_append, List.length_cons, List.length_nil, Nat.zero_add]
        rfl
      refine LoopTo.more (orc := tY 3) (lo := noLo) (fun _ _ _ _ h => h) (LoOk2.no _) this ?_
      simp only [List.append_assoc, List.cons_append, List.nil_append] at h3
      exact h3
    · rw [keepS_stop hc]
      refine ⟨a, hr, ?_⟩
      have : (rk23b k xs kd nd at' nn s p (tRow keep) (m + 1 : Nat) a e wr).run = some (out23b k xs (kd, nd, at', nn, s, p, a, e, wr, tRow keep)) := by
        rw [← Tr.ev_run, rk23b_eq]
        refine aT (by first | with_reducible rfl | with_reducible assumption | (simp only [Bool.and_eq_true, Bool.and_eq_false_iff, Bool.or_eq_true, Bool.true_and, Bool.and_true, decide_eq_true_eq, decide_eq_false_iff_not, Bool.not_eq_true', Bool.not_eq_false', beq_iff_eq, beq_eq_false_iff_ne, bne_iff_ne, bne_eq_false_iff_eq, ne_eq, fits_iff, whole_iff, List.length_append, List.length_map, List.length_cons, List.length_nil, List.length_take, List.length_drop, bRow_length, tRow_length, List.nil_append, Nat.zero_add, Nat.add_zero, Int.toNat_natCast, and_self, and_true, true_and, true_or, or_true, false_or, or_false, not_true_eq_false, not_false_eq_true] <;> omega)) ?_
        cases wr with
        | true => exact aT rfl rfl
        | false =>
          have he : e ≠ 0 := fun h => hc ⟨rfl, h⟩
          exact aF rfl (aT (by simpa using he) rfl)
      simp only [List.append_nil]
      exact LoopTo.last (orc := tY 3) (lo := noLo) (fun _ _ _ _ h => h) (LoOk2.no _) this (by simp)

/-- what the loop comes to, from its start -/
theorem loop23a {k : LK} {xs : Row} {kd nd at' nn : Int} {s : ByteArray} {p : Int} {m : Nat} {l : List UInt8} {a : AV} {e : Int} {wr : Bool} (hr : Rd l a) (hl : l.length ≤ 140737488355328) (hm : m ≤ 300) :
    ∃ a', Rd (keepS m (l, e) wr).2.1.1 a' ∧
      (((keepS m (l, e) wr).1 = [] ∧ LoopTo TT (TOrc.runs (tY 3)) (HSa 23) lp23 (inv23a k xs kd nd at' nn s p m a e wr) (out23a k xs (kd, nd, at', nn, s, p, a', (keepS m (l, e) wr).2.1.2, (keepS m (l, e) wr).2.2))) ∨
      ((keepS m (l, e) wr).1 ≠ [] ∧ LoopTo TT (TOrc.runs (tY 3)) (HSa 23) lp23 (inv23a k xs kd nd at' nn s p m a e wr) (out23b k xs (kd, nd, at', nn, s, p, a', (keepS m (l, e) wr).2.1.2, (keepS m (l, e) wr).2.2, tRow (keepS m (l, e) wr).1)))) := by
  cases m with
  | zero =>
    refine ⟨a, hr, .inl ⟨rfl, ?_⟩⟩
    have : (rk23a k xs kd nd at' nn s p (0 : Nat) a e wr).run = some (out23a k xs (kd, nd, at', nn, s, p, a, e, wr)) := by
      rw [← Tr.ev_run, rk23a_eq]
      exact aF rfl rfl
    exact LoopTo.last (orc := tY 3) (lo := noLo) (fun _ _ _ _ h => h) (LoOk2.no _) this (by simp)
  | succ m =>
    by_cases hc : wr = false ∧ e = 0
    · obtain ⟨rfl, rfl⟩ := hc
      rw [keepS_go rfl]
      obtain ⟨a1, h1, e1⟩ := c43 (w := 1) (wr := false) (e := 0) hr hl (.inl rfl)
      have hl1 : (numS 1 (l, 0)).2.1.length ≤ 140737488355328 := Nat.le_trans numS_len hl
      obtain ⟨a2, h2, h3⟩ := loop23b (k := k) (xs := xs) (kd := kd) (nd := nd) (at' := at') (nn := nn) (s := s) (p := p) m [(numS 1 (l, 0)).1 == 1] _ a1 (numS 1 (l, 0)).2.2 (decide ((numS 1 (l, 0)).1 > 1)) h1 hl1 (by simp; omega)
      refine ⟨a2, h2, .inr ⟨by simp, ?_⟩⟩
      have hw : IntKind.wrap .i64 (((m + 1 : Nat) : Int) - 1) = (m : Int) := by rw [IntKind.wrap_i64]; omega
      have : (rk23a k xs kd nd at' nn s p (m + 1 : Nat) a 0 false).run = some (.norm, inv23b k xs kd nd at' nn s p (tRow [(numS 1 (l, 0)).1 == 1]) m a1 (numS 1 (l, 0)).2.2 (decide ((numS 1 (l, 0)).1 > 1))) := by
        rw [← Tr.ev_run, rk23a_eq]
        refine aT (by first | with_reducible rfl | with_reducible assumption | (simp only [Bool.and_eq_true, Bool.and_eq_false_iff, Bool.or_eq_true, Bool.true_and, Bool.and_true, decide_eq_true_eq, decide_eq_false_iff_not, Bool.not_eq_true', Bool.not_eq_false', beq_iff_eq, beq_eq_false_iff_ne, bne_iff_ne, bne_eq_false_iff_eq, ne_eq, fits_iff, whole_iff, List.length_append, List.length_map, List.length_cons, List.length_nil, List.length_take, List.length_drop, bRow_length, tRow_length, List.nil_append, Nat.zero_add, Nat.add_zero, Int.toNat_natCast, and_self, and_true, true_and, true_or, or_true, false_or, or_false, not_true_eq_false, not_false_eq_true] <;> omega)) (aF rfl (aF rfl (gStep (fnS_eq (out := out43 _) out43_inj e1) (aF rfl ?_))))
        rw [hw]
        rfl
      exact LoopTo.more (orc := tY 3) (lo := noLo) (fun _ _ _ _ h => h) (LoOk2.no _) this h3
    · rw [keepS_stop hc]
      refine ⟨a, hr, .inl ⟨rfl, ?_⟩⟩
      have : (rk23a k xs kd nd at' nn s p (m + 1 : Nat) a e wr).run = some (out23a k xs (kd, nd, at', nn, s, p, a, e, wr)) := by
        rw [← Tr.ev_run, rk23a_eq]
        refine aT (by first | with_reducible rfl | with_reducible assumption | (simp only [Bool.and_eq_true, Bool.and_eq_false_iff, Bool.or_eq_true, Bool.true_and, Bool.and_true, decide_eq_true_eq, decide_eq_false_iff_not, Bool.not_eq_true', Bool.not_eq_false', beq_iff_eq, beq_eq_false_iff_ne, bne_iff_ne, bne_eq_false_iff_eq, ne_eq, fits_iff, whole_iff, List.length_append, List.length_map, List.length_cons, List.length_nil, List.length_take, List.length_drop, bRow_length, tRow_length, List.nil_append, Nat.zero_add, Nat.add_zero, Int.toNat_natCast, and_self, and_true, true_and, true_or, or_true, false_or, or_false, not_true_eq_false, not_false_eq_true] <;> omega)) ?_
        cases wr with
        | true => exact aT rfl rfl
        | false =>
          have he : e ≠ 0 := fun h => hc ⟨rfl, h⟩
          exact aF rfl (aT (by simpa using he) rfl)
      exact LoopTo.last (orc := tY 3) (lo := noLo) (fun _ _ _ _ h => h) (LoOk2.no _) this (by simp)

end Go.Eng
end
