/- Numbers as bytes: what word.Put and the reference's Text come to at one byte and two. -/
import Derived.Test.YtkconbpjimjbnaaSh19
import Derived.Test.YtkconbpjimjbnaaSh18
import Derived.Test.YtkconbpjimjbnaaSh20
import Derived.Lib.Strings
section
namespace Go.Eng
open Go
set_option maxRecDepth 100000
set_option linter.unusedSimpArgs false

theorem put0_eq (n : Int) (G : List Ent) : (put0 n G).ev =
  (some ((AV.own true 1 [[(D.int IntKind.u8 (IntKind.wrap IntKind.u8 (Int.fdiv n (1 : Int))))]]), G))
  := by kernel_rfl

theorem put1_eq (xs : Row) (n : Int) (G : List Ent) : (put1 xs n G).ev =
  (rAsk (true && ((decide ((0 : Int) ≤ (IntKind.wrap IntKind.i64 ((((List.length xs) : Nat) : Int) + (8 : Int))))) && ((decide (((IntKind.wrap IntKind.i64 ((((List.length xs) : Nat) : Int) + (8 : Int))) * (1 : Int)) ≤ (140737488355328 : Int))) && (decide ((IntKind.wrap IntKind.i64 ((((List.length xs) : Nat) : Int) + (8 : Int))) ≤ (9223372036854775807 : Int))))))
   (rAsk (true && (fits (TI.mk (TK.int IntKind.u8) 1 1 [(AV.dat (D.int IntKind.u8 (0 : Int)))] true) (0 + (List.length xs))))
    (rAsk ((decide ((0 + (0 + (List.length xs))) ≤ (List.length (([] : Row) ++ xs)))) && (fits (TI.mk (TK.int IntKind.u8) 1 1 [(AV.dat (D.int IntKind.u8 (0 : Int)))] true) ((0 + (List.length xs)) + 1)))
     (rAsk (true && (decide ((0 + (List.length xs)) = (List.length (([] : Row) ++ xs)))))
      (rAsk (wholeB false 0 ((0 + (List.length xs)) + 1) (List.length ((([] : Row) ++ xs) ++ [[(D.int IntKind.u8 (IntKind.wrap IntKind.u8 (Int.fdiv n (1 : Int))))]])))
       (some ((AV.own true 1 ((([] : Row) ++ xs) ++ [[(D.int IntKind.u8 (IntKind.wrap IntKind.u8 (Int.fdiv n (1 : Int))))]])), G))
       (some ((AV.dat (D.list LK.any 1 (List.take ((0 + (List.length xs)) + 1) (List.drop 0 ((([] : Row) ++ xs) ++ [[(D.int IntKind.u8 (IntKind.wrap IntKind.u8 (Int.fdiv n (1 : Int))))]]))))), G))
      )
      none
     )
     none
    )
    none
   )
   none
  )
  := by kernel_rfl

theorem put2_eq (xs : Row) (n : Int) (G : List Ent) : (put2 xs n G).ev =
  (rAsk (true && ((decide ((0 : Int) ≤ (IntKind.wrap IntKind.i64 ((((List.length xs) : Nat) : Int) + (8 : Int))))) && ((decide (((IntKind.wrap IntKind.i64 ((((List.length xs) : Nat) : Int) + (8 : Int))) * (1 : Int)) ≤ (140737488355328 : Int))) && (decide ((IntKind.wrap IntKind.i64 ((((List.length xs) : Nat) : Int) + (8 : Int))) ≤ (9223372036854775807 : Int))))))
   (rAsk (true && (fits (TI.mk (TK.int IntKind.u8) 1 1 [(AV.dat (D.int IntKind.u8 (0 : Int)))] true) (0 + (List.length xs))))
    (rAsk ((decide ((0 + (0 + (List.length xs))) ≤ (List.length (([] : Row) ++ xs)))) && (fits (TI.mk (TK.int IntKind.u8) 1 1 [(AV.dat (D.int IntKind.u8 (0 : Int)))] true) ((0 + (List.length xs)) + 1)))
     (rAsk (true && (decide ((0 + (List.length xs)) = (List.length (([] : Row) ++ xs)))))
      (rAsk ((decide ((0 + ((0 + (List.length xs)) + 1)) ≤ (List.length ((([] : Row) ++ xs) ++ [[(D.int IntKind.u8 (IntKind.wrap IntKind.u8 (Int.fdiv n (256 : Int))))]])))) && (fits (TI.mk (TK.int IntKind.u8) 1 1 [(AV.dat (D.int IntKind.u8 (0 : Int)))] true) (((0 + (List.length xs)) + 1) + 1)))
       (rAsk (true && (decide (((0 + (List.length xs)) + 1) = (List.length ((([] : Row) ++ xs) ++ [[(D.int IntKind.u8 (IntKind.wrap IntKind.u8 (Int.fdiv n (256 : Int))))]])))))
        (rAsk (wholeB false 0 (((0 + (List.length xs)) + 1) + 1) (List.length (((([] : Row) ++ xs) ++ [[(D.int IntKind.u8 (IntKind.wrap IntKind.u8 (Int.fdiv n (256 : Int))))]]) ++ [[(D.int IntKind.u8 (IntKind.wrap IntKind.u8 (Int.fdiv n (1 : Int))))]])))
         (some ((AV.own true 1 (((([] : Row) ++ xs) ++ [[(D.int IntKind.u8 (IntKind.wrap IntKind.u8 (Int.fdiv n (256 : Int))))]]) ++ [[(D.int IntKind.u8 (IntKind.wrap IntKind.u8 (Int.fdiv n (1 : Int))))]])), G))
         (some ((AV.dat (D.list LK.any 1 (List.take (((0 + (List.length xs)) + 1) + 1) (List.drop 0 (((([] : Row) ++ xs) ++ [[(D.int IntKind.u8 (IntKind.wrap IntKind.u8 (Int.fdiv n (256 : Int))))]]) ++ [[(D.int IntKind.u8 (IntKind.wrap IntKind.u8 (Int.fdiv n (1 : Int))))]]))))), G))
        )
        none
       )
       none
      )
      none
     )
     none
    )
    none
   )
   none
  )
  := by kernel_rfl

theorem txt1_eq (n : Int) (G : List Ent) : (txt1 n G).ev =
  (some ((AV.dat (D.str (ByteArray.mk (List.toArray [(UInt8.ofBitVec (BitVec.ofFin (Fin.mk ((Int.toNat (IntKind.wrap IntKind.u8 (Int.fdiv n (1 : Int)))) % 256) (Nat.mod_lt (Int.toNat (IntKind.wrap IntKind.u8 (Int.fdiv n (1 : Int)))) (BitVec.ofNat._proof_1 8)))))])))), G))
  := by kernel_rfl

theorem txt2_eq (n : Int) (G : List Ent) : (txt2 n G).ev =
  (some ((AV.dat (D.str (ByteArray.mk (List.toArray [(UInt8.ofBitVec (BitVec.ofFin (Fin.mk ((Int.toNat (IntKind.wrap IntKind.u8 (Int.fdiv n (256 : Int)))) % 256) (Nat.mod_lt (Int.toNat (IntKind.wrap IntKind.u8 (Int.fdiv n (256 : Int)))) (BitVec.ofNat._proof_1 8))))), (UInt8.ofBitVec (BitVec.ofFin (Fin.mk ((Int.toNat (IntKind.wrap IntKind.u8 (Int.fdiv n (1 : Int)))) % 256) (Nat.mod_lt (Int.toNat (IntKind.wrap IntKind.u8 (Int.fdiv n (1 : Int)))) (BitVec.ofNat._proof_1 8)))))])))), G))
  := by kernel_rfl

/-- a number as bytes, the greatest first -/
def be1 (n : Int) : List UInt8 := [UInt8.ofNat n.toNat]
def be2 (n : Int) : List UInt8 := [UInt8.ofNat (n / 256).toNat, UInt8.ofNat n.toNat]

theorem fd1 (n : Int) : Int.fdiv n 1 = n := by simp
theorem fd256 (n : Int) : Int.fdiv n 256 = n / 256 := by rw [Int.fdiv_eq_ediv_of_nonneg _ (by omega)]

def oR (G : List Ent) : Row → AV × List Ent := fun xs => (.own true 1 xs, G)
def oS (G : List Ent) : ByteArray → AV × List Ent := fun s => (.dat (.str s), G)
theorem oR_inj {G : List Ent} : ∀ x y, oR G x = oR G y → x = y := by intro x y h; simpa [oR] using h
theorem oS_inj {G : List Ent} : ∀ x y, oS G x = oS G y → x = y := by intro x y h; simpa [oS] using h

theorem c35_0 {n : Int} {G : List Ent} (h : 0 ≤ n) : fnS (fun xs : Row => (AV.own true 1 xs, G)) (U 35 [.dat (.list .nil 0 []), .dat (.int .i64 1), .dat (.int .u64 n)] G) = some (bRow (be1 n)) := by
  refine fnS_eq (out := oR G) oR_inj ?_
  show (put0 n G).run = _
  rw [← Tr.ev_run, put0_eq]
  simp only [fd1, byteRow_wrap n h]
  rfl

theorem c35_1 {l : List UInt8} {n : Int} {G : List Ent} (h : 0 ≤ n) (hl : l.length ≤ 100000) : fnS (fun xs : Row => (AV.own true 1 xs, G)) (U 35 [.dat (.list .any 1 (bRow l)), .dat (.int .i64 1), .dat (.int .u64 n)] G) = some (bRow (l ++ be1 n)) := by
  refine fnS_eq (out := oR G) oR_inj ?_
  show (put1 (bRow l) n G).run = _
  rw [← Tr.ev_run, put1_eq]
  simp only [fd1, byteRow_wrap n h]
  (repeat first
    | ((with_reducible refine aT ?_ ?_); · first | with_reducible rfl | with_reducible assumption | (simp only [Bool.and_eq_true, Bool.and_eq_false_iff, Bool.or_eq_true, Bool.true_and, Bool.and_true, decide_eq_true_eq, decide_eq_false_iff_not, Bool.not_eq_true', Bool.not_eq_false', beq_iff_eq, beq_eq_false_iff_ne, bne_iff_ne, bne_eq_false_iff_eq, ne_eq, fits_iff, whole_iff, List.length_append, List.length_map, List.length_cons, List.length_nil, List.length_take, List.length_drop, bRow_length, tRow_length, List.nil_append, Nat.zero_add, Nat.add_zero, Int.toNat_natCast, and_self, and_true, true_and, true_or, or_true, false_or, or_false, not_true_eq_false, not_false_eq_true, IntKind.wrap_i64] <;> omega))
    | ((with_reducible refine aF ?_ ?_); · first | with_reducible rfl | with_reducible assumption | (simp only [Bool.and_eq_true, Bool.and_eq_false_iff, Bool.or_eq_true, Bool.true_and, Bool.and_true, decide_eq_true_eq, decide_eq_false_iff_not, Bool.not_eq_true', Bool.not_eq_false', beq_iff_eq, beq_eq_false_iff_ne, bne_iff_ne, bne_eq_false_iff_eq, ne_eq, fits_iff, whole_iff, List.length_append, List.length_map, List.length_cons, List.length_nil, List.length_take, List.length_drop, bRow_length, tRow_length, List.nil_append, Nat.zero_add, Nat.add_zero, Int.toNat_natCast, and_self, and_true, true_and, true_or, or_true, false_or, or_false, not_true_eq_false, not_false_eq_true, IntKind.wrap_i64] <;> omega))
    | ((with_reducible apply gStep); · first | exact rfl))
  rw [bRow_append]
  rfl

theorem c35_2 {l : List UInt8} {n : Int} {G : List Ent} (h : 0 ≤ n) (hl : l.length ≤ 100000) : fnS (fun xs : Row => (AV.own true 1 xs, G)) (U 35 [.dat (.list .any 1 (bRow l)), .dat (.int .i64 2), .dat (.int .u64 n)] G) = some (bRow (l ++ be2 n)) := by
  refine fnS_eq (out := oR G) oR_inj ?_
  show (put2 (bRow l) n G).run = _
  rw [← Tr.ev_run, put2_eq]
  simp only [fd1, fd256, byteRow_wrap n h, byteRow_wrap (n / 256) (by omega)]
  (repeat first
    | ((with_reducible refine aT ?_ ?_); · first | with_reducible rfl | with_reducible assumption | (simp only [Bool.and_eq_true, Bool.and_eq_false_iff, Bool.or_eq_true, Bool.true_and, Bool.and_true, decide_eq_true_eq, decide_eq_false_iff_not, Bool.not_eq_true', Bool.not_eq_false', beq_iff_eq, beq_eq_false_iff_ne, bne_iff_ne, bne_eq_false_iff_eq, ne_eq, fits_iff, whole_iff, List.length_append, List.length_map, List.length_cons, List.length_nil, List.length_take, List.length_drop, bRow_length, tRow_length, List.nil_append, Nat.zero_add, Nat.add_zero, Int.toNat_natCast, and_self, and_true, true_and, true_or, or_true, false_or, or_false, not_true_eq_false, not_false_eq_true, IntKind.wrap_i64] <;> omega))
    | ((with_reducible refine aF ?_ ?_); · first | with_reducible rfl | with_reducible assumption | (simp only [Bool.and_eq_true, Bool.and_eq_false_iff, Bool.or_eq_true, Bool.true_and, Bool.and_true, decide_eq_true_eq, decide_eq_false_iff_not, Bool.not_eq_true', Bool.not_eq_false', beq_iff_eq, beq_eq_false_iff_ne, bne_iff_ne, bne_eq_false_iff_eq, ne_eq, fits_iff, whole_iff, List.length_append, List.length_map, List.length_cons, List.length_nil, List.length_take, List.length_drop, bRow_length, tRow_length, List.nil_append, Nat.zero_add, Nat.add_zero, Int.toNat_natCast, and_self, and_true, true_and, true_or, or_true, false_or, or_false, not_true_eq_false, not_false_eq_true, IntKind.wrap_i64] <;> omega))
    | ((with_reducible apply gStep); · first | exact rfl))
  rw [bRow_append]
  simp only [oR, be2, bRow, List.map_cons, List.map_nil, List.nil_append, List.append_assoc, List.singleton_append]

theorem c39_1 {n : Int} {G : List Ent} (h : 0 ≤ n) : fnS (fun s : ByteArray => (AV.dat (.str s), G)) (U 39 [.dat (.int .i64 1), .dat (.int .u64 n)] G) = some ⟨(be1 n).toArray⟩ := by
  refine fnS_eq (out := oS G) oS_inj ?_
  show (txt1 n G).run = _
  rw [← Tr.ev_run, txt1_eq]
  show some (AV.dat (.str ⟨#[UInt8.ofNat (IntKind.wrap .u8 (Int.fdiv n 1)).toNat]⟩), G) = _
  have e : ∀ m : Int, 0 ≤ m → UInt8.ofNat (m % 256).toNat = UInt8.ofNat m.toNat := fun m hm => by
    apply UInt8.toNat_inj.1
    simp
    omega
  rw [fd1, IntKind.wrap_u8, e n h]
  rfl

theorem c39_2 {n : Int} {G : List Ent} (h : 0 ≤ n) : fnS (fun s : ByteArray => (AV.dat (.str s), G)) (U 39 [.dat (.int .i64 2), .dat (.int .u64 n)] G) = some ⟨(be2 n).toArray⟩ := by
  refine fnS_eq (out := oS G) oS_inj ?_
  show (txt2 n G).run = _
  rw [← Tr.ev_run, txt2_eq]
  show some (AV.dat (.str ⟨#[UInt8.ofNat (IntKind.wrap .u8 (Int.fdiv n 256)).toNat, UInt8.ofNat (IntKind.wrap .u8 (Int.fdiv n 1)).toNat]⟩), G) = _
  rw [fd1, fd256, IntKind.wrap_u8, IntKind.wrap_u8]
  have e : ∀ m : Int, 0 ≤ m → UInt8.ofNat (m % 256).toNat = UInt8.ofNat m.toNat := fun m hm => by
    apply UInt8.toNat_inj.1
    simp
    omega
  rw [e n h, e (n / 256) (by omega)]
  rfl

end Go.Eng
end

/- Steps as bytes: loops and functions as trees. -/
section
namespace Go.Eng
open Go

def out19 (G : List Ent) (xs : Row) : Ex × St := (.exit 2, ⟨mkT 0 79 [(4, .sh false 0 1 0 xs.length)], ⟨[some (.row .excl 1 xs)], G, 0⟩⟩)
def out20 (G : List Ent) (b : ByteArray) : Ex × St := (.exit 0, ⟨mkT 0 105 [(4, .dat (.str b))], ⟨[], G, 0⟩⟩)

noncomputable def lo19 (n : Nat) (st : St) : Tr (Ex × St) := match n with
  | 5 => tloU TT tVo noLo (HSa 19) lp19a 8 st
  | 16 => tlo TT tVo.runs (HSa 19) lp19b (out19 st.mem.G) st
  | _ => .fail
noncomputable def f19t (k nd at' n : Int) (s : ByteArray) (p : Int) (kk : LK) (ks : Row) (G : List Ent) : Tr (AV × List Ent) :=
  tfn TT tVo lo19 Go.Proofs.Try.f19 [stp k nd at' n s p kk ks] G
noncomputable def lo20 (n : Nat) (st : St) : Tr (Ex × St) := match n with
  | 5 => tlo TT tVo.runs (HSa 20) lp20 (out20 st.mem.G) st
  | _ => .fail
noncomputable def f20t (k nd at' n : Int) (s : ByteArray) (p : Int) (kk : LK) (ks : Row) (G : List Ent) : Tr (AV × List Ent) :=
  tfn TT tVo lo20 Go.Proofs.Try.f20 [stp k nd at' n s p kk ks] G

noncomputable def lp22 : Code := lpOf (codeOf Go.Proofs.Try.f22) 0
noncomputable def lp41 : Code := lpOf (codeOf Go.Proofs.Try.f41) 0
def inv22 (sz : Nat) (k nd at' n : Int) (s : ByteArray) (p : Int) (kk : LK) (ks : Row) (k' nd' at'' n' : Int) (s' : ByteArray) (p' : Int) (kk' : LK) (ks' : Row) (G : List Ent) (i : Int) : St :=
  ⟨mkT 0 73 [(2, .ptr (.loc 0) 0), (3, .ptr (.loc 1) 0), (5, jnt .i64 i)], ⟨[some (.obj [jnt .i64 k, jnt .i64 nd, jnt .i64 at', jnt .i64 n, .dat (.str s), jnt .i64 p, .dat (.list kk sz ks)]), some (.obj [jnt .i64 k', jnt .i64 nd', jnt .i64 at'', jnt .i64 n', .dat (.str s'), jnt .i64 p', .dat (.list kk' 1 ks')])], G, 0⟩⟩
noncomputable def rk22 (sz : Nat) (k nd at' n : Int) (s : ByteArray) (p : Int) (kk : LK) (ks : Row) (k' nd' at'' n' : Int) (s' : ByteArray) (p' : Int) (kk' : LK) (ks' : Row) (G : List Ent) (i : Int) : Tr (Ex × St) :=
  tround TT tNone noLo (HSa 22) lp22 (inv22 sz k nd at' n s p kk ks k' nd' at'' n' s' p' kk' ks' G i)
def inv41 (k1 k2 : LK) (xs ys : Row) (G : List Ent) (n i : Int) : St := ⟨mkT 0 26 [(0, .dat (.list k1 1 xs)), (1, .dat (.list k2 1 ys)), (12, .dat (.int .i64 n)), (13, .dat (.int .i64 i))], ⟨[], G, 0⟩⟩
noncomputable def rk41 (k1 k2 : LK) (xs ys : Row) (G : List Ent) (n i : Int) : Tr (Ex × St) := tround TT tNone noLo (HSa 41) lp41 (inv41 k1 k2 xs ys G n i)

def out22 (G : List Ent) (b : Bool) : Ex × St :=
  match b with
  | true => (.exit 0, ⟨mkT 0 73 [], ⟨[], G, 0⟩⟩)
  | false => (.ret, ⟨mkT 0 73 [(4, .dat (.bool false))], ⟨[], G, 0⟩⟩)
noncomputable def lo22 (n : Nat) (st : St) : Tr (Ex × St) := match n with
  | 4 => tloB TT tNone.runs (HSa 22) lp22 (out22 st.mem.G) st
  | _ => .fail
noncomputable def lo41 (n : Nat) (st : St) : Tr (Ex × St) := match n with
  | 4 => tloB TT tNone.runs (HSa 41) lp41 (outB 26 st.mem.G) st
  | _ => .fail
def stpz (k nd at' n : Int) (s : ByteArray) (p : Int) (kk : LK) (sz : Nat) (ks : Row) : AV := .agg [jnt .i64 k, jnt .i64 nd, jnt .i64 at', jnt .i64 n, .dat (.str s), jnt .i64 p, .dat (.list kk sz ks)]
noncomputable def f22t (sz : Nat) (k nd at' n : Int) (s : ByteArray) (p : Int) (kk : LK) (ks : Row) (k' nd' at'' n' : Int) (s' : ByteArray) (p' : Int) (kk' : LK) (ks' : Row) (G : List Ent) : Tr (AV × List Ent) :=
  tfn TT tNone lo22 Go.Proofs.Try.f22 [stpz k nd at' n s p kk sz ks, stp k' nd' at'' n' s' p' kk' ks'] G
noncomputable def f41t (k1 : LK) (xs : Row) (k2 : LK) (ys : Row) (G : List Ent) : Tr (AV × List Ent) := tfn TT tNone lo41 Go.Proofs.Try.f41 [.dat (.list k1 1 xs), .dat (.list k2 1 ys)] G
noncomputable def R41 (a : List AV) (G : List Ent) : Option (AV × List Ent) := (tfn TT tNone lo41 Go.Proofs.Try.f41 a G).run
noncomputable def t21 : TOrc := tCons 34 (fun a G => tU 34 a G) (tCons 41 (fun a G => tspec (fun b : Bool => (.dat (.bool b), G)) (R41 a G)) tNone)
noncomputable def f21t (k nd at' n : Int) (s : ByteArray) (p : Int) (kk : LK) (ks : Row) (k' nd' at'' n' : Int) (s' : ByteArray) (p' : Int) (kk' : LK) (ks' : Row) (G : List Ent) : Tr (AV × List Ent) :=
  tfn TT t21 noLo Go.Proofs.Try.f21 [stp k nd at' n s p kk ks, stp k' nd' at'' n' s' p' kk' ks'] G

end Go.Eng
end

/- Steps as bytes: what the loops and the functions come to. -/
section
namespace Go.Eng
open Go
set_option maxRecDepth 100000
set_option linter.unusedSimpArgs false

theorem rk19_eq (xs : Row) (kk : LK) (ks : Row) (G : List Ent) (i : Int) : (rk19 xs kk ks G i).ev =
  (rAsk (decide (i < (((List.length ks) : Nat) : Int)))
   (rAsk (true && ((decide ((0 : Int) ≤ i)) && (decide (i < (((List.length ks) : Nat) : Int)))))
    (rGet ks[(Int.toNat i)]? fun x1 =>
     (rGet (List.head? (List.drop 0 x1)) fun x2 =>
      (rGet (D.bool? x2) fun x3 =>
       (rAsk x3
        (rGet (fnS (fun (xs : Row) => ((AV.own true 1 xs), G)) (U 35 [(AV.dat (D.list LK.any 1 (List.take (List.length xs) (List.drop 0 xs)))), (AV.dat (D.int IntKind.i64 (1 : Int))), (AV.dat (D.int IntKind.u64 (1 : Int)))] G)) fun x4 =>
         (some (Ex.norm, (St.mk (mkT 0 79 [(4, (AV.sh false 0 1 0 (List.length x4))), (67, (AV.dat (D.list kk 1 ks))), (68, (AV.dat (D.int IntKind.i64 (((List.length ks) : Nat) : Int)))), (69, (AV.dat (D.int IntKind.i64 (IntKind.wrap IntKind.i64 (i + (1 : Int))))))]) (Mem.mk [(Option.some (Ent.row Mode.excl 1 x4))] G 0))))
        )
        (rGet (fnS (fun (xs : Row) => ((AV.own true 1 xs), G)) (U 35 [(AV.dat (D.list LK.any 1 (List.take (List.length xs) (List.drop 0 xs)))), (AV.dat (D.int IntKind.i64 (1 : Int))), (AV.dat (D.int IntKind.u64 (0 : Int)))] G)) fun x5 =>
         (some (Ex.norm, (St.mk (mkT 0 79 [(4, (AV.sh false 0 1 0 (List.length x5))), (67, (AV.dat (D.list kk 1 ks))), (68, (AV.dat (D.int IntKind.i64 (((List.length ks) : Nat) : Int)))), (69, (AV.dat (D.int IntKind.i64 (IntKind.wrap IntKind.i64 (i + (1 : Int))))))]) (Mem.mk [(Option.some (Ent.row Mode.excl 1 x5))] G 0))))
        )
       )
      )
     )
    )
    none
   )
   (some ((Ex.exit 2), (St.mk (mkT 0 79 [(4, (AV.sh false 0 1 0 (List.length xs)))]) (Mem.mk [(Option.some (Ent.row Mode.excl 1 xs))] G 0))))
  )
  := by kernel_rfl

theorem rk20_eq (b : ByteArray) (k nd at' n : Int) (s : ByteArray) (p : Int) (kk : LK) (ks : Row) (G : List Ent) (i : Int) : (rk20 b k nd at' n s p kk ks G i).ev =
  (rAsk (decide (i < (((List.length ks) : Nat) : Int)))
   (rAsk (true && ((decide ((0 : Int) ≤ i)) && (decide (i < (((List.length ks) : Nat) : Int)))))
    (rGet ks[(Int.toNat i)]? fun x1 =>
     (rGet (List.head? (List.drop 0 x1)) fun x2 =>
      (rGet (fnS (fun (s : ByteArray) => ((AV.dat (D.str s)), G)) (U 40 [(AV.dat x2)] G)) fun x3 =>
       (rAsk (decide (((((ByteArray.size b) + (ByteArray.size x3)) : Nat) : Int) ≤ (9223372036854775807 : Int)))
        (some (Ex.norm, (St.mk (mkT 0 105 [(1, (AV.ptr (Ref.loc 0) 0)), (4, (AV.dat (D.str (b ++ x3)))), (5, (AV.dat (D.int IntKind.i64 (IntKind.wrap IntKind.i64 (i + (1 : Int))))))]) (Mem.mk [(Option.some (Ent.obj [(AV.dat (D.int IntKind.i64 k)), (AV.dat (D.int IntKind.i64 nd)), (AV.dat (D.int IntKind.i64 at')), (AV.dat (D.int IntKind.i64 n)), (AV.dat (D.str s)), (AV.dat (D.int IntKind.i64 p)), (AV.dat (D.list kk 1 ks))]))] G 0))))
        none
       )
      )
     )
    )
    none
   )
   (some ((Ex.exit 0), (St.mk (mkT 0 105 [(4, (AV.dat (D.str b)))]) (Mem.mk [] G 0))))
  )
  := by kernel_rfl

theorem rk22_eq (sz : Nat) (k nd at' n : Int) (s : ByteArray) (p : Int) (kk : LK) (ks : Row) (k' nd' at'' n' : Int) (s' : ByteArray) (p' : Int) (kk' : LK) (ks' : Row) (G : List Ent) (i : Int) : (rk22 sz k nd at' n s p kk ks k' nd' at'' n' s' p' kk' ks' G i).ev =
  (rAsk (decide (i < (((List.length ks) : Nat) : Int)))
   (rAsk ((decide (sz = 1)) && ((decide ((0 : Int) ≤ i)) && (decide (i < (((List.length ks) : Nat) : Int)))))
    (rGet ks[(Int.toNat i)]? fun x1 =>
     (rGet (List.head? (List.drop 0 x1)) fun x2 =>
      (rAsk (true && ((decide ((0 : Int) ≤ i)) && (decide (i < (((List.length ks') : Nat) : Int)))))
       (rGet ks'[(Int.toNat i)]? fun x3 =>
        (rGet (List.head? (List.drop 0 x3)) fun x4 =>
         (rGet (D.bool? x2) fun x5 =>
          (rGet (D.bool? x4) fun x6 =>
           (rAsk (!(x5 == x6))
            (some (Ex.ret, (St.mk (mkT 0 73 [(4, (AV.dat (D.bool false)))]) (Mem.mk [] G 0))))
            (some (Ex.norm, (St.mk (mkT 0 73 [(2, (AV.ptr (Ref.loc 0) 0)), (3, (AV.ptr (Ref.loc 1) 0)), (5, (AV.dat (D.int IntKind.i64 (IntKind.wrap IntKind.i64 (i + (1 : Int))))))]) (Mem.mk [(Option.some (Ent.obj [(AV.dat (D.int IntKind.i64 k)), (AV.dat (D.int IntKind.i64 nd)), (AV.dat (D.int IntKind.i64 at')), (AV.dat (D.int IntKind.i64 n)), (AV.dat (D.str s)), (AV.dat (D.int IntKind.i64 p)), (AV.dat (D.list kk sz ks))])), (Option.some (Ent.obj [(AV.dat (D.int IntKind.i64 k')), (AV.dat (D.int IntKind.i64 nd')), (AV.dat (D.int IntKind.i64 at'')), (AV.dat (D.int IntKind.i64 n')), (AV.dat (D.str s')), (AV.dat (D.int IntKind.i64 p')), (AV.dat (D.list kk' 1 ks'))]))] G 0))))
           )
          )
         )
        )
       )
       none
      )
     )
    )
    none
   )
   (some ((Ex.exit 0), (St.mk (mkT 0 73 []) (Mem.mk [] G 0))))
  )
  := by kernel_rfl

theorem rk41_eq (k1 k2 : LK) (xs ys : Row) (G : List Ent) (n i : Int) : (rk41 k1 k2 xs ys G n i).ev =
  (rAsk (decide (i < n))
   (rAsk (true && ((decide ((0 : Int) ≤ i)) && (decide (i < (((List.length xs) : Nat) : Int)))))
    (rGet xs[(Int.toNat i)]? fun x1 =>
     (rGet (List.head? (List.drop 0 x1)) fun x2 =>
      (rAsk (true && ((decide ((0 : Int) ≤ i)) && (decide (i < (((List.length ys) : Nat) : Int)))))
       (rGet ys[(Int.toNat i)]? fun x3 =>
        (rGet (List.head? (List.drop 0 x3)) fun x4 =>
         (rGet (D.bool? x2) fun x5 =>
          (rGet (D.bool? x4) fun x6 =>
           (rAsk (!(x5 == x6))
            (some (Ex.ret, (St.mk (mkT 0 26 [(4, (AV.dat (D.bool false)))]) (Mem.mk [] G 0))))
            (some (Ex.norm, (St.mk (mkT 0 26 [(0, (AV.dat (D.list k1 1 xs))), (1, (AV.dat (D.list k2 1 ys))), (12, (AV.dat (D.int IntKind.i64 n))), (13, (AV.dat (D.int IntKind.i64 (IntKind.wrap IntKind.i64 (i + (1 : Int))))))]) (Mem.mk [] G 0))))
           )
          )
         )
        )
       )
       none
      )
     )
    )
    none
   )
   (some ((Ex.exit 0), (St.mk (mkT 0 26 []) (Mem.mk [] G 0))))
  )
  := by kernel_rfl

def fl (b : Bool) : UInt8 := if b then 1 else 0
def flags (l : List Bool) : List UInt8 := l.map fl

theorem take_succ {α : Type} {l : List α} {i : Nat} (h : i < l.length) : l.take (i + 1) = l.take i ++ [l[i]] := by rw [List.take_succ_eq_append_getElem h]

theorem U40 {x : Bool} {G : List Ent} : fnS (fun s : ByteArray => (AV.dat (.str s), G)) (U 40 [.dat (.bool x)] G) = some ⟨#[fl x]⟩ := by
  refine fnS_eq (out := oS G) oS_inj ?_
  cases x
  · show (tU 40 [.dat (.bool false)] G).run = _
    kernel_rfl
  · show (tU 40 [.dat (.bool true)] G).run = _
    kernel_rfl

theorem loop19 {l : List UInt8} {kk : LK} {keep : List Bool} {G : List Ent} (hl : l.length ≤ 99000) (hk : keep.length ≤ 300) :
    LoopTo TT tVo.runs (HSa 19) lp19b (inv19 (bRow l) kk (tRow keep) G 0) (out19 G (bRow (l ++ flags keep))) := by
  have key := LoopTo.count (T := TT) (orc := tVo) (H := HSa 19) (lo := noLo) (b := lp19b) (LoOk2.no _) (N := keep.length) (inv := fun i => inv19 (bRow (l ++ flags (keep.take i))) kk (tRow keep) G i) (ex := .exit 2) (s := (out19 G (bRow (l ++ flags keep))).2)
    (fun i hi => ?_) ?_ (by simp) keep.length 0 (by omega)
  · simp only [List.take_zero, flags, List.map_nil, List.append_nil] at key ⊢
    exact key
  · show (rk19 _ kk (tRow keep) G i).run = _
    rw [← Tr.ev_run, rk19_eq]
    simp only [List.drop_zero, List.take_length]
    have hg := tRow_get hi
    have hlen : (l ++ flags (keep.take i)).length ≤ 100000 := by simp [flags]; omega
    refine aT (by first | with_reducible rfl | with_reducible assumption | (simp only [Bool.and_eq_true, Bool.and_eq_false_iff, Bool.or_eq_true, Bool.true_and, Bool.and_true, decide_eq_true_eq, decide_eq_false_iff_not, Bool.not_eq_true', Bool.not_eq_false', beq_iff_eq, beq_eq_false_iff_ne, bne_iff_ne, bne_eq_false_iff_eq, ne_eq, fits_iff, whole_iff, List.length_append, List.length_map, List.length_cons, List.length_nil, List.length_take, List.length_drop, bRow_length, tRow_length, List.nil_append, Nat.zero_add, Nat.add_zero, Int.toNat_natCast, and_self, and_true, true_and, true_or, or_true, false_or, or_false, not_true_eq_false, not_false_eq_true] <;> omega)) ?_
    refine aT (by first | with_reducible rfl | with_reducible assumption | (simp only [Bool.and_eq_true, Bool.and_eq_false_iff, Bool.or_eq_true, Bool.true_and, Bool.and_true, decide_eq_true_eq, decide_eq_false_iff_not, Bool.not_eq_true', Bool.not_eq_false', beq_iff_eq, beq_eq_false_iff_ne, bne_iff_ne, bne_eq_false_iff_eq, ne_eq, fits_iff, whole_iff, List.length_append, List.length_map, List.length_cons, List.length_nil, List.length_take, List.length_drop, bRow_length, tRow_length, List.nil_append, Nat.zero_add, Nat.add_zero, Int.toNat_natCast, and_self, and_true, true_and, true_or, or_true, false_or, or_false, not_true_eq_false, not_false_eq_true] <;> omega)) ?_
    refine gStep (by rw [Int.toNat_natCast]; exact hg) ?_
    refine gStep rfl ?_
    refine gStep rfl ?_
    have fin : ∀ b : Bool, keep[i] = b → bRow (l ++ flags (keep.take i) ++ be1 (if b then 1 else 0)) = bRow (l ++ flags (keep.take (i + 1))) := by
      intro b hb
      rw [take_succ hi, hb]
      cases b <;> simp [flags, fl, be1]
    have hw : IntKind.wrap .i64 ((i : Int) + 1) = ((i + 1 : Nat) : Int) := by rw [IntKind.wrap_i64]; omega
    cases hb : keep[i] with
    | true =>
      refine aT rfl ?_
      refine gStep (c35_1 (by omega) hlen) ?_
      rw [show be1 1 = be1 (if true then 1 else 0) from rfl, fin true hb, hw]
      rfl
    | false =>
      refine aF rfl ?_
      refine gStep (c35_1 (by omega) hlen) ?_
      rw [show be1 0 = be1 (if false then 1 else 0) from rfl, fin false hb, hw]
      rfl
  · show (rk19 _ kk (tRow keep) G keep.length).run = _
    rw [← Tr.ev_run, rk19_eq]
    refine aF (by first | with_reducible rfl | with_reducible assumption | (simp only [Bool.and_eq_true, Bool.and_eq_false_iff, Bool.or_eq_true, Bool.true_and, Bool.and_true, decide_eq_true_eq, decide_eq_false_iff_not, Bool.not_eq_true', Bool.not_eq_false', beq_iff_eq, beq_eq_false_iff_ne, bne_iff_ne, bne_eq_false_iff_eq, ne_eq, fits_iff, whole_iff, List.length_append, List.length_map, List.length_cons, List.length_nil, List.length_take, List.length_drop, bRow_length, tRow_length, List.nil_append, Nat.zero_add, Nat.add_zero, Int.toNat_natCast, and_self, and_true, true_and, true_or, or_true, false_or, or_false, not_true_eq_false, not_false_eq_true] <;> omega)) ?_
    rw [List.take_length]
    rfl

theorem loop20 {l : List UInt8} {k nd at' n : Int} {s : ByteArray} {p : Int} {kk : LK} {keep : List Bool} {G : List Ent} (hl : l.length ≤ 99000) (hk : keep.length ≤ 300) :
    LoopTo TT tVo.runs (HSa 20) lp20 (inv20 ⟨l.toArray⟩ k nd at' n s p kk (tRow keep) G 0) (out20 G ⟨(l ++ flags keep).toArray⟩) := by
  have key := LoopTo.count (T := TT) (orc := tVo) (H := HSa 20) (lo := noLo) (b := lp20) (LoOk2.no _) (N := keep.length) (inv := fun i => inv20 ⟨(l ++ flags (keep.take i)).toArray⟩ k nd at' n s p kk (tRow keep) G i) (ex := .exit 0) (s := (out20 G ⟨(l ++ flags keep).toArray⟩).2)
    (fun i hi => ?_) ?_ (by simp) keep.length 0 (by omega)
  · simp only [List.take_zero, flags, List.map_nil, List.append_nil] at key ⊢
    exact key
  · show (rk20 _ k nd at' n s p kk (tRow keep) G i).run = _
    rw [← Tr.ev_run, rk20_eq]
    have hg := tRow_get hi
    refine aT (by first | with_reducible rfl | with_reducible assumption | (simp only [Bool.and_eq_true, Bool.and_eq_false_iff, Bool.or_eq_true, Bool.true_and, Bool.and_true, decide_eq_true_eq, decide_eq_false_iff_not, Bool.not_eq_true', Bool.not_eq_false', beq_iff_eq, beq_eq_false_iff_ne, bne_iff_ne, bne_eq_false_iff_eq, ne_eq, fits_iff, whole_iff, List.length_append, List.length_map, List.length_cons, List.length_nil, List.length_take, List.length_drop, bRow_length, tRow_length, List.nil_append, Nat.zero_add, Nat.add_zero, Int.toNat_natCast, and_self, and_true, true_and, true_or, or_true, false_or, or_false, not_true_eq_false, not_false_eq_true] <;> omega)) ?_
    refine aT (by first | with_reducible rfl | with_reducible assumption | (simp only [Bool.and_eq_true, Bool.and_eq_false_iff, Bool.or_eq_true, Bool.true_and, Bool.and_true, decide_eq_true_eq, decide_eq_false_iff_not, Bool.not_eq_true', Bool.not_eq_false', beq_iff_eq, beq_eq_false_iff_ne, bne_iff_ne, bne_eq_false_iff_eq, ne_eq, fits_iff, whole_iff, List.length_append, List.length_map, List.length_cons, List.length_nil, List.length_take, List.length_drop, bRow_length, tRow_length, List.nil_append, Nat.zero_add, Nat.add_zero, Int.toNat_natCast, and_self, and_true, true_and, true_or, or_true, false_or, or_false, not_true_eq_false, not_false_eq_true] <;> omega)) ?_
    refine gStep (by rw [Int.toNat_natCast]; exact hg) ?_
    refine gStep rfl ?_
    refine gStep U40 ?_
    refine aT (by simp [ByteArray.size, flags, IntKind.max, IntKind.bits]; omega) ?_
    have hw : IntKind.wrap .i64 ((i : Int) + 1) = ((i + 1 : Nat) : Int) := by rw [IntKind.wrap_i64]; omega
    have e : (⟨(l ++ flags (keep.take i)).toArray⟩ : ByteArray) ++ ⟨#[fl keep[i]]⟩ = ⟨(l ++ flags (keep.take (i + 1))).toArray⟩ := by
      rw [show (#[fl keep[i]] : Array UInt8) = [fl keep[i]].toArray from rfl, ba_append, take_succ hi]
      simp only [flags, List.map_append, List.map_cons, List.map_nil, List.append_assoc]
    rw [e, hw]
    rfl
  · show (rk20 _ k nd at' n s p kk (tRow keep) G keep.length).run = _
    rw [← Tr.ev_run, rk20_eq]
    refine aF (by first | with_reducible rfl | with_reducible assumption | (simp only [Bool.and_eq_true, Bool.and_eq_false_iff, Bool.or_eq_true, Bool.true_and, Bool.and_true, decide_eq_true_eq, decide_eq_false_iff_not, Bool.not_eq_true', Bool.not_eq_false', beq_iff_eq, beq_eq_false_iff_ne, bne_iff_ne, bne_eq_false_iff_eq, ne_eq, fits_iff, whole_iff, List.length_append, List.length_map, List.length_cons, List.length_nil, List.length_take, List.length_drop, bRow_length, tRow_length, List.nil_append, Nat.zero_add, Nat.add_zero, Int.toNat_natCast, and_self, and_true, true_and, true_or, or_true, false_or, or_false, not_true_eq_false, not_false_eq_true] <;> omega)) ?_
    rw [List.take_length]
    rfl

theorem out22_n {G : List Ent} : ∀ x, (out22 G x).1 ≠ .norm := by intro x; cases x <;> simp [out22]
theorem outB_n {N : Nat} {G : List Ent} : ∀ x, (outB N G x).1 ≠ .norm := by intro x; cases x <;> simp [outB]
theorem out22_inj {G : List Ent} : ∀ x y, out22 G x = out22 G y → x = y := by
  intro x y h
  cases x <;> cases y <;> first | rfl | (simp [out22] at h)

theorem loop22 {sz : Nat} {k nd at' n : Int} {s : ByteArray} {p : Int} {kk : LK} {a : List Bool} {k' nd' at'' n' : Int} {s' : ByteArray} {p' : Int} {kk' : LK} {b : List Bool} {G : List Ent} (hab : a.length = b.length) (hm : a.length ≤ maxLen) (hz : a ≠ [] → sz = 1) :
    LoopTo TT tNone.runs (HSa 22) lp22 (inv22 sz k nd at' n s p kk (tRow a) k' nd' at'' n' s' p' kk' (tRow b) G 0) (out22 G (decide (a = b))) := by
  have key := LoopTo.all (T := TT) (orc := tNone) (H := HSa 22) (lo := noLo) (b := lp22) (LoOk2.no _) (N := a.length) (inv := fun i => inv22 sz k nd at' n s p kk (tRow a) k' nd' at'' n' s' p' kk' (tRow b) G i) (p := fun i => a[i]? == b[i]?) (out := out22 G)
    (fun i hi hp => ?_) (fun i hi hp => ?_) ?_ out22_n a.length 0 (by omega) (decide (a = b)) (by rw [decide_eq_true_eq]; exact (eq_iff_get hab).symm)
  · exact key
  · show (rk22 sz k nd at' n s p kk (tRow a) k' nd' at'' n' s' p' kk' (tRow b) G i).run = _
    rw [← Tr.ev_run, rk22_eq]
    have hi' : i < b.length := by omega
    obtain rfl : sz = 1 := hz (fun h => by rw [h] at hi; simp at hi)
    have ga := tRow_get hi
    have gb := tRow_get hi'
    have hw : IntKind.wrap .i64 ((i : Int) + 1) = ((i + 1 : Nat) : Int) := by unfold maxLen at hm; rw [IntKind.wrap_i64]; omega
    (repeat first
    | ((with_reducible refine aT ?_ ?_); · first | with_reducible rfl | with_reducible assumption | (simp only [Bool.and_eq_true, Bool.and_eq_false_iff, Bool.or_eq_true, Bool.true_and, Bool.and_true, decide_eq_true_eq, decide_eq_false_iff_not, Bool.not_eq_true', Bool.not_eq_false', beq_iff_eq, beq_eq_false_iff_ne, bne_iff_ne, bne_eq_false_iff_eq, ne_eq, fits_iff, whole_iff, List.length_append, List.length_map, List.length_cons, List.length_nil, List.length_take, List.length_drop, bRow_length, tRow_length, List.nil_append, Nat.zero_add, Nat.add_zero, Int.toNat_natCast, and_self, and_true, true_and, true_or, or_true, false_or, or_false, not_true_eq_false, not_false_eq_true] <;> omega))
    | ((with_reducible refine aF ?_ ?_); · first | with_reducible rfl | with_reducible assumption | (simp only [Bool.and_eq_true, Bool.and_eq_false_iff, Bool.or_eq_true, Bool.true_and, Bool.and_true, decide_eq_true_eq, decide_eq_false_iff_not, Bool.not_eq_true', Bool.not_eq_false', beq_iff_eq, beq_eq_false_iff_ne, bne_iff_ne, bne_eq_false_iff_eq, ne_eq, fits_iff, whole_iff, List.length_append, List.length_map, List.length_cons, List.length_nil, List.length_take, List.length_drop, bRow_length, tRow_length, List.nil_append, Nat.zero_add, Nat.add_zero, Int.toNat_natCast, and_self, and_true, true_and, true_or, or_true, false_or, or_false, not_true_eq_false, not_false_eq_true] <;> omega))
    | ((with_reducible apply gStep); · first | exact rfl | (rw [Int.toNat_natCast]; exact ga) | (rw [Int.toNat_natCast]; exact gb)))
    refine aF (by simpa [hi, hi'] using hp) ?_
    rw [hw]
    rfl
  · show (rk22 sz k nd at' n s p kk (tRow a) k' nd' at'' n' s' p' kk' (tRow b) G i).run = _
    rw [← Tr.ev_run, rk22_eq]
    have hi' : i < b.length := by omega
    obtain rfl : sz = 1 := hz (fun h => by rw [h] at hi; simp at hi)
    have ga := tRow_get hi
    have gb := tRow_get hi'
    (repeat first
    | ((with_reducible refine aT ?_ ?_); · first | with_reducible rfl | with_reducible assumption | (simp only [Bool.and_eq_true, Bool.and_eq_false_iff, Bool.or_eq_true, Bool.true_and, Bool.and_true, decide_eq_true_eq, decide_eq_false_iff_not, Bool.not_eq_true', Bool.not_eq_false', beq_iff_eq, beq_eq_false_iff_ne, bne_iff_ne, bne_eq_false_iff_eq, ne_eq, fits_iff, whole_iff, List.length_append, List.length_map, List.length_cons, List.length_nil, List.length_take, List.length_drop, bRow_length, tRow_length, List.nil_append, Nat.zero_add, Nat.add_zero, Int.toNat_natCast, and_self, and_true, true_and, true_or, or_true, false_or, or_false, not_true_eq_false, not_false_eq_true] <;> omega))
    | ((with_reducible refine aF ?_ ?_); · first | with_reducible rfl | with_reducible assumption | (simp only [Bool.and_eq_true, Bool.and_eq_false_iff, Bool.or_eq_true, Bool.true_and, Bool.and_true, decide_eq_true_eq, decide_eq_false_iff_not, Bool.not_eq_true', Bool.not_eq_false', beq_iff_eq, beq_eq_false_iff_ne, bne_iff_ne, bne_eq_false_iff_eq, ne_eq, fits_iff, whole_iff, List.length_append, List.length_map, List.length_cons, List.length_nil, List.length_take, List.length_drop, bRow_length, tRow_length, List.nil_append, Nat.zero_add, Nat.add_zero, Int.toNat_natCast, and_self, and_true, true_and, true_or, or_true, false_or, or_false, not_true_eq_false, not_false_eq_true] <;> omega))
    | ((with_reducible apply gStep); · first | exact rfl | (rw [Int.toNat_natCast]; exact ga) | (rw [Int.toNat_natCast]; exact gb)))
    refine aT (by simpa [hi, hi'] using hp) ?_
    rfl
  · show (rk22 sz k nd at' n s p kk (tRow a) k' nd' at'' n' s' p' kk' (tRow b) G a.length).run = _
    rw [← Tr.ev_run, rk22_eq]
    refine aF (by first | with_reducible rfl | with_reducible assumption | (simp only [Bool.and_eq_true, Bool.and_eq_false_iff, Bool.or_eq_true, Bool.true_and, Bool.and_true, decide_eq_true_eq, decide_eq_false_iff_not, Bool.not_eq_true', Bool.not_eq_false', beq_iff_eq, beq_eq_false_iff_ne, bne_iff_ne, bne_eq_false_iff_eq, ne_eq, fits_iff, whole_iff, List.length_append, List.length_map, List.length_cons, List.length_nil, List.length_take, List.length_drop, bRow_length, tRow_length, List.nil_append, Nat.zero_add, Nat.add_zero, Int.toNat_natCast, and_self, and_true, true_and, true_or, or_true, false_or, or_false, not_true_eq_false, not_false_eq_true] <;> omega)) ?_
    rfl

theorem loop41 {k1 k2 : LK} {a b : List Bool} {G : List Ent} (hab : a.length = b.length) (hm : a.length ≤ maxLen) :
    LoopTo TT tNone.runs (HSa 41) lp41 (inv41 k1 k2 (tRow a) (tRow b) G a.length 0) (outB 26 G (decide (a = b))) := by
  have key := LoopTo.all (T := TT) (orc := tNone) (H := HSa 41) (lo := noLo) (b := lp41) (LoOk2.no _) (N := a.length) (inv := fun i => inv41 k1 k2 (tRow a) (tRow b) G a.length i) (p := fun i => a[i]? == b[i]?) (out := outB 26 G)
    (fun i hi hp => ?_) (fun i hi hp => ?_) ?_ outB_n a.length 0 (by omega) (decide (a = b)) (by rw [decide_eq_true_eq]; exact (eq_iff_get hab).symm)
  · exact key
  · show (rk41 k1 k2 (tRow a) (tRow b) G a.length i).run = _
    rw [← Tr.ev_run, rk41_eq]
    have hi' : i < b.length := by omega
    have ga := tRow_get hi
    have gb := tRow_get hi'
    have hw : IntKind.wrap .i64 ((i : Int) + 1) = ((i + 1 : Nat) : Int) := by unfold maxLen at hm; rw [IntKind.wrap_i64]; omega
    (repeat first
    | ((with_reducible refine aT ?_ ?_); · first | with_reducible rfl | with_reducible assumption | (simp only [Bool.and_eq_true, Bool.and_eq_false_iff, Bool.or_eq_true, Bool.true_and, Bool.and_true, decide_eq_true_eq, decide_eq_false_iff_not, Bool.not_eq_true', Bool.not_eq_false', beq_iff_eq, beq_eq_false_iff_ne, bne_iff_ne, bne_eq_false_iff_eq, ne_eq, fits_iff, whole_iff, List.length_append, List.length_map, List.length_cons, List.length_nil, List.length_take, List.length_drop, bRow_length, tRow_length, List.nil_append, Nat.zero_add, Nat.add_zero, Int.toNat_natCast, and_self, and_true, true_and, true_or, or_true, false_or, or_false, not_true_eq_false, not_false_eq_true] <;> omega))
    | ((with_reducible refine aF ?_ ?_); · first | with_reducible rfl | with_reducible assumption | (simp only [Bool.and_eq_true, Bool.and_eq_false_iff, Bool.or_eq_true, Bool.true_and, Bool.and_true, decide_eq_true_eq, decide_eq_false_iff_not, Bool.not_eq_true', Bool.not_eq_false', beq_iff_eq, beq_eq_false_iff_ne, bne_iff_ne, bne_eq_false_iff_eq, ne_eq, fits_iff, whole_iff, List.length_append, List.length_map, List.length_cons, List.length_nil, List.length_take, List.length_drop, bRow_length, tRow_length, List.nil_append, Nat.zero_add, Nat.add_zero, Int.toNat_natCast, and_self, and_true, true_and, true_or, or_true, false_or, or_false, not_true_eq_false, not_false_eq_true] <;> omega))
    | ((with_reducible apply gStep); · first | exact rfl | (rw [Int.toNat_natCast]; exact ga) | (rw [Int.toNat_natCast]; exact gb)))
    refine aF (by simpa [hi, hi'] using hp) ?_
    rw [hw]
    rfl
  · show (rk41 k1 k2 (tRow a) (tRow b) G a.length i).run = _
    rw [← Tr.ev_run, rk41_eq]
    have hi' : i < b.length := by omega
    have ga := tRow_get hi
    have gb := tRow_get hi'
    (repeat first
    | ((with_reducible refine aT ?_ ?_); · first | with_reducible rfl | with_reducible assumption | (simp only [Bool.and_eq_true, Bool.and_eq_false_iff, Bool.or_eq_true, Bool.true_and, Bool.and_true, decide_eq_true_eq, decide_eq_false_iff_not, Bool.not_eq_true', Bool.not_eq_false', beq_iff_eq, beq_eq_false_iff_ne, bne_iff_ne, bne_eq_false_iff_eq, ne_eq, fits_iff, whole_iff, List.length_append, List.length_map, List.length_cons, List.length_nil, List.length_take, List.length_drop, bRow_length, tRow_length, List.nil_append, Nat.zero_add, Nat.add_zero, Int.toNat_natCast, and_self, and_true, true_and, true_or, or_true, false_or, or_false, not_true_eq_false, not_false_eq_true] <;> omega))
    | ((with_reducible refine aF ?_ ?_); · first | with_reducible rfl | with_reducible assumption | (simp only [Bool.and_eq_true, Bool.and_eq_false_iff, Bool.or_eq_true, Bool.true_and, Bool.and_true, decide_eq_true_eq, decide_eq_false_iff_not, Bool.not_eq_true', Bool.not_eq_false', beq_iff_eq, beq_eq_false_iff_ne, bne_iff_ne, bne_eq_false_iff_eq, ne_eq, fits_iff, whole_iff, List.length_append, List.length_map, List.length_cons, List.length_nil, List.length_take, List.length_drop, bRow_length, tRow_length, List.nil_append, Nat.zero_add, Nat.add_zero, Int.toNat_natCast, and_self, and_true, true_and, true_or, or_true, false_or, or_false, not_true_eq_false, not_false_eq_true] <;> omega))
    | ((with_reducible apply gStep); · first | exact rfl | (rw [Int.toNat_natCast]; exact ga) | (rw [Int.toNat_natCast]; exact gb)))
    refine aT (by simpa [hi, hi'] using hp) ?_
    rfl
  · show (rk41 k1 k2 (tRow a) (tRow b) G a.length a.length).run = _
    rw [← Tr.ev_run, rk41_eq]
    refine aF (by first | with_reducible rfl | with_reducible assumption | (simp only [Bool.and_eq_true, Bool.and_eq_false_iff, Bool.or_eq_true, Bool.true_and, Bool.and_true, decide_eq_true_eq, decide_eq_false_iff_not, Bool.not_eq_true', Bool.not_eq_false', beq_iff_eq, beq_eq_false_iff_ne, bne_iff_ne, bne_eq_false_iff_eq, ne_eq, fits_iff, whole_iff, List.length_append, List.length_map, List.length_cons, List.length_nil, List.length_take, List.length_drop, bRow_length, tRow_length, List.nil_append, Nat.zero_add, Nat.add_zero, Int.toNat_natCast, and_self, and_true, true_and, true_or, or_true, false_or, or_false, not_true_eq_false, not_false_eq_true] <;> omega)) ?_
    rfl

end Go.Eng
end

/- Steps as bytes: what the functions come to. -/
section
namespace Go.Eng
open Go
set_option maxRecDepth 100000
set_option linter.unusedSimpArgs false

theorem f19t_eq (k nd at' n : Int) (s : ByteArray) (p : Int) (kk : LK) (ks : Row) (G : List Ent) : (f19t k nd at' n s p kk ks G).ev =
  (rAsk (!((ByteArray.toList s) == []))
   (rAsk (!((((ByteArray.size s) : Nat) : Int) == (64 : Int)))
    (some ((AV.tup [(AV.dat (D.list LK.nil 0 ([] : Row))), (AV.dat (D.int IntKind.i64 (6 : Int)))]), G))
    (rAsk (decide ((((List.length ks) : Nat) : Int) > (255 : Int)))
     (some ((AV.tup [(AV.dat (D.list LK.nil 0 ([] : Row))), (AV.dat (D.int IntKind.i64 (6 : Int)))]), G))
     (rAsk (decide (k < (0 : Int)))
      (some ((AV.tup [(AV.dat (D.list LK.nil 0 ([] : Row))), (AV.dat (D.int IntKind.i64 (6 : Int)))]), G))
      (rAsk (decide (k ≥ (256 : Int)))
       (some ((AV.tup [(AV.dat (D.list LK.nil 0 ([] : Row))), (AV.dat (D.int IntKind.i64 (6 : Int)))]), G))
       (rGet (fnS (fun (xs : Row) => ((AV.own true 1 xs), G)) (U 35 [(AV.dat (D.list LK.nil 0 ([] : Row))), (AV.dat (D.int IntKind.i64 (1 : Int))), (AV.dat (D.int IntKind.u64 (IntKind.wrap IntKind.u64 k)))] G)) fun x1 =>
        (rAsk (decide (nd < (0 : Int)))
         (some ((AV.tup [(AV.dat (D.list LK.nil 0 ([] : Row))), (AV.dat (D.int IntKind.i64 (6 : Int)))]), G))
         (rAsk (decide (nd ≥ (256 : Int)))
          (some ((AV.tup [(AV.dat (D.list LK.nil 0 ([] : Row))), (AV.dat (D.int IntKind.i64 (6 : Int)))]), G))
          (rGet (fnS (fun (xs : Row) => ((AV.own true 1 xs), G)) (U 35 [(AV.dat (D.list LK.any 1 (List.take (List.length x1) (List.drop 0 x1)))), (AV.dat (D.int IntKind.i64 (1 : Int))), (AV.dat (D.int IntKind.u64 (IntKind.wrap IntKind.u64 nd)))] G)) fun x2 =>
           (rAsk (decide (at' < (0 : Int)))
            (some ((AV.tup [(AV.dat (D.list LK.nil 0 ([] : Row))), (AV.dat (D.int IntKind.i64 (6 : Int)))]), G))
            (rAsk (decide (at' ≥ (65536 : Int)))
             (some ((AV.tup [(AV.dat (D.list LK.nil 0 ([] : Row))), (AV.dat (D.int IntKind.i64 (6 : Int)))]), G))
             (rGet (fnS (fun (xs : Row) => ((AV.own true 1 xs), G)) (U 35 [(AV.dat (D.list LK.any 1 (List.take (List.length x2) (List.drop 0 x2)))), (AV.dat (D.int IntKind.i64 (2 : Int))), (AV.dat (D.int IntKind.u64 (IntKind.wrap IntKind.u64 at')))] G)) fun x3 =>
              (rAsk (decide (n < (0 : Int)))
               (some ((AV.tup [(AV.dat (D.list LK.nil 0 ([] : Row))), (AV.dat (D.int IntKind.i64 (6 : Int)))]), G))
               (rAsk (decide (n ≥ (65536 : Int)))
                (some ((AV.tup [(AV.dat (D.list LK.nil 0 ([] : Row))), (AV.dat (D.int IntKind.i64 (6 : Int)))]), G))
                (rGet (fnS (fun (xs : Row) => ((AV.own true 1 xs), G)) (U 35 [(AV.dat (D.list LK.any 1 (List.take (List.length x3) (List.drop 0 x3)))), (AV.dat (D.int IntKind.i64 (2 : Int))), (AV.dat (D.int IntKind.u64 (IntKind.wrap IntKind.u64 n)))] G)) fun x4 =>
                 (rAsk (decide (p < (0 : Int)))
                  (some ((AV.tup [(AV.dat (D.list LK.nil 0 ([] : Row))), (AV.dat (D.int IntKind.i64 (6 : Int)))]), G))
                  (rAsk (decide (p ≥ (65536 : Int)))
                   (some ((AV.tup [(AV.dat (D.list LK.nil 0 ([] : Row))), (AV.dat (D.int IntKind.i64 (6 : Int)))]), G))
                   (rGet (fnS (fun (xs : Row) => ((AV.own true 1 xs), G)) (U 35 [(AV.dat (D.list LK.any 1 (List.take (List.length x4) (List.drop 0 x4)))), (AV.dat (D.int IntKind.i64 (2 : Int))), (AV.dat (D.int IntKind.u64 (IntKind.wrap IntKind.u64 p)))] G)) fun x5 =>
                    (rAsk (!((ByteArray.toList s) == []))
                     (rGet (fnS (fun (xs : Row) => ((AV.own true 1 xs), G)) (U 35 [(AV.dat (D.list LK.any 1 (List.take (List.length x5) (List.drop 0 x5)))), (AV.dat (D.int IntKind.i64 (1 : Int))), (AV.dat (D.int IntKind.u64 (1 : Int)))] G)) fun x6 =>
                      (rAsk ((decide ((0 + (List.length x6)) ≤ (List.length x6))) && (fits (TI.mk (TK.int IntKind.u8) 1 1 [(AV.dat (D.int IntKind.u8 (0 : Int)))] true) ((List.length x6) + (List.length (List.map byteRow (Array.toList (ByteArray.data s)))))))
                       (rAsk (true && (decide ((List.length x6) = (List.length x6))))
                        (rGet (fnS (fun (xs : Row) => ((AV.own true 1 xs), G)) (U 35 [(AV.dat (D.list LK.any 1 (List.take ((List.length x6) + (List.length (List.map byteRow (Array.toList (ByteArray.data s))))) (List.drop 0 (x6 ++ (List.map byteRow (Array.toList (ByteArray.data s)))))))), (AV.dat (D.int IntKind.i64 (1 : Int))), (AV.dat (D.int IntKind.u64 (IntKind.wrap IntKind.u64 (((List.length ks) : Nat) : Int))))] G)) fun x7 =>
                         (rGet (loS TT (TOrc.runs tVo) (HSa 19) lp19b (out19 G) (St.mk (mkT 0 79 [(4, (AV.sh false 0 1 0 (List.length x7))), (67, (AV.dat (D.list kk 1 ks))), (68, (AV.dat (D.int IntKind.i64 (((List.length ks) : Nat) : Int)))), (69, (AV.dat (D.int IntKind.i64 (0 : Int))))]) (Mem.mk [(Option.some (Ent.row Mode.excl 1 x7))] G 0))) fun x8 =>
                          (some ((AV.tup [(AV.dat (D.list LK.any 1 (List.take (List.length x8) (List.drop 0 x8)))), (AV.dat (D.int IntKind.i64 (0 : Int)))]), G))
                         )
                        )
                        none
                       )
                       none
                      )
                     )
                     (rGet (fnS (fun (xs : Row) => ((AV.own true 1 xs), G)) (U 35 [(AV.dat (D.list LK.any 1 (List.take (List.length x5) (List.drop 0 x5)))), (AV.dat (D.int IntKind.i64 (1 : Int))), (AV.dat (D.int IntKind.u64 (0 : Int)))] G)) fun x9 =>
                      (rAsk ((decide ((0 + (List.length x9)) ≤ (List.length x9))) && (fits (TI.mk (TK.int IntKind.u8) 1 1 [(AV.dat (D.int IntKind.u8 (0 : Int)))] true) ((List.length x9) + (List.length (List.map byteRow (Array.toList (ByteArray.data s)))))))
                       (rAsk (true && (decide ((List.length x9) = (List.length x9))))
                        (rGet (fnS (fun (xs : Row) => ((AV.own true 1 xs), G)) (U 35 [(AV.dat (D.list LK.any 1 (List.take ((List.length x9) + (List.length (List.map byteRow (Array.toList (ByteArray.data s))))) (List.drop 0 (x9 ++ (List.map byteRow (Array.toList (ByteArray.data s)))))))), (AV.dat (D.int IntKind.i64 (1 : Int))), (AV.dat (D.int IntKind.u64 (IntKind.wrap IntKind.u64 (((List.length ks) : Nat) : Int))))] G)) fun x10 =>
                         (rGet (loS TT (TOrc.runs tVo) (HSa 19) lp19b (out19 G) (St.mk (mkT 0 79 [(4, (AV.sh false 0 1 0 (List.length x10))), (67, (AV.dat (D.list kk 1 ks))), (68, (AV.dat (D.int IntKind.i64 (((List.length ks) : Nat) : Int)))), (69, (AV.dat (D.int IntKind.i64 (0 : Int))))]) (Mem.mk [(Option.some (Ent.row Mode.excl 1 x10))] G 0))) fun x11 =>
                          (some ((AV.tup [(AV.dat (D.list LK.any 1 (List.take (List.length x11) (List.drop 0 x11)))), (AV.dat (D.int IntKind.i64 (0 : Int)))]), G))
                         )
                        )
                        none
                       )
                       none
                      )
                     )
                    )
                   )
                  )
                 )
                )
               )
              )
             )
            )
           )
          )
         )
        )
       )
      )
     )
    )
   )
   (rAsk (decide ((((List.length ks) : Nat) : Int) > (255 : Int)))
    (some ((AV.tup [(AV.dat (D.list LK.nil 0 ([] : Row))), (AV.dat (D.int IntKind.i64 (6 : Int)))]), G))
    (rAsk (decide (k < (0 : Int)))
     (some ((AV.tup [(AV.dat (D.list LK.nil 0 ([] : Row))), (AV.dat (D.int IntKind.i64 (6 : Int)))]), G))
     (rAsk (decide (k ≥ (256 : Int)))
      (some ((AV.tup [(AV.dat (D.list LK.nil 0 ([] : Row))), (AV.dat (D.int IntKind.i64 (6 : Int)))]), G))
      (rGet (fnS (fun (xs : Row) => ((AV.own true 1 xs), G)) (U 35 [(AV.dat (D.list LK.nil 0 ([] : Row))), (AV.dat (D.int IntKind.i64 (1 : Int))), (AV.dat (D.int IntKind.u64 (IntKind.wrap IntKind.u64 k)))] G)) fun x12 =>
       (rAsk (decide (nd < (0 : Int)))
        (some ((AV.tup [(AV.dat (D.list LK.nil 0 ([] : Row))), (AV.dat (D.int IntKind.i64 (6 : Int)))]), G))
        (rAsk (decide (nd ≥ (256 : Int)))
         (some ((AV.tup [(AV.dat (D.list LK.nil 0 ([] : Row))), (AV.dat (D.int IntKind.i64 (6 : Int)))]), G))
         (rGet (fnS (fun (xs : Row) => ((AV.own true 1 xs), G)) (U 35 [(AV.dat (D.list LK.any 1 (List.take (List.length x12) (List.drop 0 x12)))), (AV.dat (D.int IntKind.i64 (1 : Int))), (AV.dat (D.int IntKind.u64 (IntKind.wrap IntKind.u64 nd)))] G)) fun x13 =>
          (rAsk (decide (at' < (0 : Int)))
           (some ((AV.tup [(AV.dat (D.list LK.nil 0 ([] : Row))), (AV.dat (D.int IntKind.i64 (6 : Int)))]), G))
           (rAsk (decide (at' ≥ (65536 : Int)))
            (some ((AV.tup [(AV.dat (D.list LK.nil 0 ([] : Row))), (AV.dat (D.int IntKind.i64 (6 : Int)))]), G))
            (rGet (fnS (fun (xs : Row) => ((AV.own true 1 xs), G)) (U 35 [(AV.dat (D.list LK.any 1 (List.take (List.length x13) (List.drop 0 x13)))), (AV.dat (D.int IntKind.i64 (2 : Int))), (AV.dat (D.int IntKind.u64 (IntKind.wrap IntKind.u64 at')))] G)) fun x14 =>
             (rAsk (decide (n < (0 : Int)))
              (some ((AV.tup [(AV.dat (D.list LK.nil 0 ([] : Row))), (AV.dat (D.int IntKind.i64 (6 : Int)))]), G))
              (rAsk (decide (n ≥ (65536 : Int)))
               (some ((AV.tup [(AV.dat (D.list LK.nil 0 ([] : Row))), (AV.dat (D.int IntKind.i64 (6 : Int)))]), G))
               (rGet (fnS (fun (xs : Row) => ((AV.own true 1 xs), G)) (U 35 [(AV.dat (D.list LK.any 1 (List.take (List.length x14) (List.drop 0 x14)))), (AV.dat (D.int IntKind.i64 (2 : Int))), (AV.dat (D.int IntKind.u64 (IntKind.wrap IntKind.u64 n)))] G)) fun x15 =>
                (rAsk (decide (p < (0 : Int)))
                 (some ((AV.tup [(AV.dat (D.list LK.nil 0 ([] : Row))), (AV.dat (D.int IntKind.i64 (6 : Int)))]), G))
                 (rAsk (decide (p ≥ (65536 : Int)))
                  (some ((AV.tup [(AV.dat (D.list LK.nil 0 ([] : Row))), (AV.dat (D.int IntKind.i64 (6 : Int)))]), G))
                  (rGet (fnS (fun (xs : Row) => ((AV.own true 1 xs), G)) (U 35 [(AV.dat (D.list LK.any 1 (List.take (List.length x15) (List.drop 0 x15)))), (AV.dat (D.int IntKind.i64 (2 : Int))), (AV.dat (D.int IntKind.u64 (IntKind.wrap IntKind.u64 p)))] G)) fun x16 =>
                   (rAsk (!((ByteArray.toList s) == []))
                    (rGet (fnS (fun (xs : Row) => ((AV.own true 1 xs), G)) (U 35 [(AV.dat (D.list LK.any 1 (List.take (List.length x16) (List.drop 0 x16)))), (AV.dat (D.int IntKind.i64 (1 : Int))), (AV.dat (D.int IntKind.u64 (1 : Int)))] G)) fun x17 =>
                     (rAsk ((decide ((0 + (List.length x17)) ≤ (List.length x17))) && (fits (TI.mk (TK.int IntKind.u8) 1 1 [(AV.dat (D.int IntKind.u8 (0 : Int)))] true) ((List.length x17) + (List.length (List.map byteRow (Array.toList (ByteArray.data s)))))))
                      (rAsk (true && (decide ((List.length x17) = (List.length x17))))
                       (rGet (fnS (fun (xs : Row) => ((AV.own true 1 xs), G)) (U 35 [(AV.dat (D.list LK.any 1 (List.take ((List.length x17) + (List.length (List.map byteRow (Array.toList (ByteArray.data s))))) (List.drop 0 (x17 ++ (List.map byteRow (Array.toList (ByteArray.data s)))))))), (AV.dat (D.int IntKind.i64 (1 : Int))), (AV.dat (D.int IntKind.u64 (IntKind.wrap IntKind.u64 (((List.length ks) : Nat) : Int))))] G)) fun x18 =>
                        (rGet (loS TT (TOrc.runs tVo) (HSa 19) lp19b (out19 G) (St.mk (mkT 0 79 [(4, (AV.sh false 0 1 0 (List.length x18))), (67, (AV.dat (D.list kk 1 ks))), (68, (AV.dat (D.int IntKind.i64 (((List.length ks) : Nat) : Int)))), (69, (AV.dat (D.int IntKind.i64 (0 : Int))))]) (Mem.mk [(Option.some (Ent.row Mode.excl 1 x18))] G 0))) fun x19 =>
                         (some ((AV.tup [(AV.dat (D.list LK.any 1 (List.take (List.length x19) (List.drop 0 x19)))), (AV.dat (D.int IntKind.i64 (0 : Int)))]), G))
                        )
                       )
                       none
                      )
                      none
                     )
                    )
                    (rGet (fnS (fun (xs : Row) => ((AV.own true 1 xs), G)) (U 35 [(AV.dat (D.list LK.any 1 (List.take (List.length x16) (List.drop 0 x16)))), (AV.dat (D.int IntKind.i64 (1 : Int))), (AV.dat (D.int IntKind.u64 (0 : Int)))] G)) fun x20 =>
                     (rAsk ((decide ((0 + (List.length x20)) ≤ (List.length x20))) && (fits (TI.mk (TK.int IntKind.u8) 1 1 [(AV.dat (D.int IntKind.u8 (0 : Int)))] true) ((List.length x20) + (List.length (List.map byteRow (Array.toList (ByteArray.data s)))))))
                      (rAsk (true && (decide ((List.length x20) = (List.length x20))))
                       (rGet (fnS (fun (xs : Row) => ((AV.own true 1 xs), G)) (U 35 [(AV.dat (D.list LK.any 1 (List.take ((List.length x20) + (List.length (List.map byteRow (Array.toList (ByteArray.data s))))) (List.drop 0 (x20 ++ (List.map byteRow (Array.toList (ByteArray.data s)))))))), (AV.dat (D.int IntKind.i64 (1 : Int))), (AV.dat (D.int IntKind.u64 (IntKind.wrap IntKind.u64 (((List.length ks) : Nat) : Int))))] G)) fun x21 =>
                        (rGet (loS TT (TOrc.runs tVo) (HSa 19) lp19b (out19 G) (St.mk (mkT 0 79 [(4, (AV.sh false 0 1 0 (List.length x21))), (67, (AV.dat (D.list kk 1 ks))), (68, (AV.dat (D.int IntKind.i64 (((List.length ks) : Nat) : Int)))), (69, (AV.dat (D.int IntKind.i64 (0 : Int))))]) (Mem.mk [(Option.some (Ent.row Mode.excl 1 x21))] G 0))) fun x22 =>
                         (some ((AV.tup [(AV.dat (D.list LK.any 1 (List.take (List.length x22) (List.drop 0 x22)))), (AV.dat (D.int IntKind.i64 (0 : Int)))]), G))
                        )
                       )
                       none
                      )
                      none
                     )
                    )
                   )
                  )
                 )
                )
               )
              )
             )
            )
           )
          )
         )
        )
       )
      )
     )
    )
   )
  )
  := by kernel_rfl

theorem f20t_eq (k nd at' n : Int) (s : ByteArray) (p : Int) (kk : LK) (ks : Row) (G : List Ent) : (f20t k nd at' n s p kk ks G).ev =
  (rAsk (decide (k ≥ (0 : Int)))
   (rAsk (!(decide (k < (256 : Int))))
    (some ((AV.tup [(AV.dat (D.str (ByteArray.mk (List.toArray [])))), (AV.dat (D.int IntKind.i64 (6 : Int)))]), G))
    (rAsk (decide (nd ≥ (0 : Int)))
     (rAsk (!(decide (nd < (256 : Int))))
      (some ((AV.tup [(AV.dat (D.str (ByteArray.mk (List.toArray [])))), (AV.dat (D.int IntKind.i64 (6 : Int)))]), G))
      (rAsk (decide (at' ≥ (0 : Int)))
       (rAsk (!(decide (at' < (65536 : Int))))
        (some ((AV.tup [(AV.dat (D.str (ByteArray.mk (List.toArray [])))), (AV.dat (D.int IntKind.i64 (6 : Int)))]), G))
        (rAsk (decide (n ≥ (0 : Int)))
         (rAsk (!(decide (n < (65536 : Int))))
          (some ((AV.tup [(AV.dat (D.str (ByteArray.mk (List.toArray [])))), (AV.dat (D.int IntKind.i64 (6 : Int)))]), G))
          (rAsk (decide (p ≥ (0 : Int)))
           (rAsk (!(decide (p < (65536 : Int))))
            (some ((AV.tup [(AV.dat (D.str (ByteArray.mk (List.toArray [])))), (AV.dat (D.int IntKind.i64 (6 : Int)))]), G))
            (rAsk (!((ByteArray.toList s) == []))
             (rAsk (!((((ByteArray.size s) : Nat) : Int) == (64 : Int)))
              (some ((AV.tup [(AV.dat (D.str (ByteArray.mk (List.toArray [])))), (AV.dat (D.int IntKind.i64 (6 : Int)))]), G))
              (rAsk (decide ((((List.length ks) : Nat) : Int) > (255 : Int)))
               (some ((AV.tup [(AV.dat (D.str (ByteArray.mk (List.toArray [])))), (AV.dat (D.int IntKind.i64 (6 : Int)))]), G))
               (rGet (fnS (fun (s : ByteArray) => ((AV.dat (D.str s)), G)) (U 39 [(AV.dat (D.int IntKind.i64 (1 : Int))), (AV.dat (D.int IntKind.u64 (IntKind.wrap IntKind.u64 k)))] G)) fun x1 =>
                (rGet (fnS (fun (s : ByteArray) => ((AV.dat (D.str s)), G)) (U 39 [(AV.dat (D.int IntKind.i64 (1 : Int))), (AV.dat (D.int IntKind.u64 (IntKind.wrap IntKind.u64 nd)))] G)) fun x2 =>
                 (rAsk (decide (((((ByteArray.size x1) + (ByteArray.size x2)) : Nat) : Int) ≤ (9223372036854775807 : Int)))
                  (rGet (fnS (fun (s : ByteArray) => ((AV.dat (D.str s)), G)) (U 39 [(AV.dat (D.int IntKind.i64 (2 : Int))), (AV.dat (D.int IntKind.u64 (IntKind.wrap IntKind.u64 at')))] G)) fun x3 =>
                   (rAsk (decide (((((ByteArray.size (x1 ++ x2)) + (ByteArray.size x3)) : Nat) : Int) ≤ (9223372036854775807 : Int)))
                    (rGet (fnS (fun (s : ByteArray) => ((AV.dat (D.str s)), G)) (U 39 [(AV.dat (D.int IntKind.i64 (2 : Int))), (AV.dat (D.int IntKind.u64 (IntKind.wrap IntKind.u64 n)))] G)) fun x4 =>
                     (rAsk (decide (((((ByteArray.size ((x1 ++ x2) ++ x3)) + (ByteArray.size x4)) : Nat) : Int) ≤ (9223372036854775807 : Int)))
                      (rGet (fnS (fun (s : ByteArray) => ((AV.dat (D.str s)), G)) (U 39 [(AV.dat (D.int IntKind.i64 (2 : Int))), (AV.dat (D.int IntKind.u64 (IntKind.wrap IntKind.u64 p)))] G)) fun x5 =>
                       (rAsk (decide (((((ByteArray.size (((x1 ++ x2) ++ x3) ++ x4)) + (ByteArray.size x5)) : Nat) : Int) ≤ (9223372036854775807 : Int)))
                        (rGet (fnS (fun (s : ByteArray) => ((AV.dat (D.str s)), G)) (U 40 [(AV.dat (D.bool (!((ByteArray.toList s) == []))))] G)) fun x6 =>
                         (rAsk (decide (((((ByteArray.size ((((x1 ++ x2) ++ x3) ++ x4) ++ x5)) + (ByteArray.size x6)) : Nat) : Int) ≤ (9223372036854775807 : Int)))
                          (rAsk (decide (((((ByteArray.size (((((x1 ++ x2) ++ x3) ++ x4) ++ x5) ++ x6)) + (ByteArray.size s)) : Nat) : Int) ≤ (9223372036854775807 : Int)))
                           (rGet (fnS (fun (s : ByteArray) => ((AV.dat (D.str s)), G)) (U 39 [(AV.dat (D.int IntKind.i64 (1 : Int))), (AV.dat (D.int IntKind.u64 (IntKind.wrap IntKind.u64 (((List.length ks) : Nat) : Int))))] G)) fun x7 =>
                            (rAsk (decide (((((ByteArray.size ((((((x1 ++ x2) ++ x3) ++ x4) ++ x5) ++ x6) ++ s)) + (ByteArray.size x7)) : Nat) : Int) ≤ (9223372036854775807 : Int)))
                             (rGet (loS TT (TOrc.runs tVo) (HSa 20) lp20 (out20 G) (St.mk (mkT 0 105 [(1, (AV.ptr (Ref.loc 0) 0)), (4, (AV.dat (D.str (((((((x1 ++ x2) ++ x3) ++ x4) ++ x5) ++ x6) ++ s) ++ x7)))), (5, (AV.dat (D.int IntKind.i64 (0 : Int))))]) (Mem.mk [(Option.some (Ent.obj [(AV.dat (D.int IntKind.i64 k)), (AV.dat (D.int IntKind.i64 nd)), (AV.dat (D.int IntKind.i64 at')), (AV.dat (D.int IntKind.i64 n)), (AV.dat (D.str s)), (AV.dat (D.int IntKind.i64 p)), (AV.dat (D.list kk 1 ks))]))] G 0))) fun x8 =>
                              (some ((AV.tup [(AV.dat (D.str x8)), (AV.dat (D.int IntKind.i64 (0 : Int)))]), G))
                             )
                             none
                            )
                           )
                           none
                          )
                          none
                         )
                        )
                        none
                       )
                      )
                      none
                     )
                    )
                    none
                   )
                  )
                  none
                 )
                )
               )
              )
             )
             (rAsk (decide ((((List.length ks) : Nat) : Int) > (255 : Int)))
              (some ((AV.tup [(AV.dat (D.str (ByteArray.mk (List.toArray [])))), (AV.dat (D.int IntKind.i64 (6 : Int)))]), G))
              (rGet (fnS (fun (s : ByteArray) => ((AV.dat (D.str s)), G)) (U 39 [(AV.dat (D.int IntKind.i64 (1 : Int))), (AV.dat (D.int IntKind.u64 (IntKind.wrap IntKind.u64 k)))] G)) fun x9 =>
               (rGet (fnS (fun (s : ByteArray) => ((AV.dat (D.str s)), G)) (U 39 [(AV.dat (D.int IntKind.i64 (1 : Int))), (AV.dat (D.int IntKind.u64 (IntKind.wrap IntKind.u64 nd)))] G)) fun x10 =>
                (rAsk (decide (((((ByteArray.size x9) + (ByteArray.size x10)) : Nat) : Int) ≤ (9223372036854775807 : Int)))
                 (rGet (fnS (fun (s : ByteArray) => ((AV.dat (D.str s)), G)) (U 39 [(AV.dat (D.int IntKind.i64 (2 : Int))), (AV.dat (D.int IntKind.u64 (IntKind.wrap IntKind.u64 at')))] G)) fun x11 =>
                  (rAsk (decide (((((ByteArray.size (x9 ++ x10)) + (ByteArray.size x11)) : Nat) : Int) ≤ (9223372036854775807 : Int)))
                   (rGet (fnS (fun (s : ByteArray) => ((AV.dat (D.str s)), G)) (U 39 [(AV.dat (D.int IntKind.i64 (2 : Int))), (AV.dat (D.int IntKind.u64 (IntKind.wrap IntKind.u64 n)))] G)) fun x12 =>
                    (rAsk (decide (((((ByteArray.size ((x9 ++ x10) ++ x11)) + (ByteArray.size x12)) : Nat) : Int) ≤ (9223372036854775807 : Int)))
                     (rGet (fnS (fun (s : ByteArray) => ((AV.dat (D.str s)), G)) (U 39 [(AV.dat (D.int IntKind.i64 (2 : Int))), (AV.dat (D.int IntKind.u64 (IntKind.wrap IntKind.u64 p)))] G)) fun x13 =>
                      (rAsk (decide (((((ByteArray.size (((x9 ++ x10) ++ x11) ++ x12)) + (ByteArray.size x13)) : Nat) : Int) ≤ (9223372036854775807 : Int)))
                       (rGet (fnS (fun (s : ByteArray) => ((AV.dat (D.str s)), G)) (U 40 [(AV.dat (D.bool (!((ByteArray.toList s) == []))))] G)) fun x14 =>
                        (rAsk (decide (((((ByteArray.size ((((x9 ++ x10) ++ x11) ++ x12) ++ x13)) + (ByteArray.size x14)) : Nat) : Int) ≤ (9223372036854775807 : Int)))
                         (rAsk (decide (((((ByteArray.size (((((x9 ++ x10) ++ x11) ++ x12) ++ x13) ++ x14)) + (ByteArray.size s)) : Nat) : Int) ≤ (9223372036854775807 : Int)))
                          (rGet (fnS (fun (s : ByteArray) => ((AV.dat (D.str s)), G)) (U 39 [(AV.dat (D.int IntKind.i64 (1 : Int))), (AV.dat (D.int IntKind.u64 (IntKind.wrap IntKind.u64 (((List.length ks) : Nat) : Int))))] G)) fun x15 =>
                           (rAsk (decide (((((ByteArray.size ((((((x9 ++ x10) ++ x11) ++ x12) ++ x13) ++ x14) ++ s)) + (ByteArray.size x15)) : Nat) : Int) ≤ (9223372036854775807 : Int)))
                            (rGet (loS TT (TOrc.runs tVo) (HSa 20) lp20 (out20 G) (St.mk (mkT 0 105 [(1, (AV.ptr (Ref.loc 0) 0)), (4, (AV.dat (D.str (((((((x9 ++ x10) ++ x11) ++ x12) ++ x13) ++ x14) ++ s) ++ x15)))), (5, (AV.dat (D.int IntKind.i64 (0 : Int))))]) (Mem.mk [(Option.some (Ent.obj [(AV.dat (D.int IntKind.i64 k)), (AV.dat (D.int IntKind.i64 nd)), (AV.dat (D.int IntKind.i64 at')), (AV.dat (D.int IntKind.i64 n)), (AV.dat (D.str s)), (AV.dat (D.int IntKind.i64 p)), (AV.dat (D.list kk 1 ks))]))] G 0))) fun x16 =>
                             (some ((AV.tup [(AV.dat (D.str x16)), (AV.dat (D.int IntKind.i64 (0 : Int)))]), G))
                            )
                            none
                           )
                          )
                          none
                         )
                         none
                        )
                       )
                       none
                      )
                     )
                     none
                    )
                   )
                   none
                  )
                 )
                 none
                )
               )
              )
             )
            )
           )
           (some ((AV.tup [(AV.dat (D.str (ByteArray.mk (List.toArray [])))), (AV.dat (D.int IntKind.i64 (6 : Int)))]), G))
          )
         )
         (some ((AV.tup [(AV.dat (D.str (ByteArray.mk (List.toArray [])))), (AV.dat (D.int IntKind.i64 (6 : Int)))]), G))
        )
       )
       (some ((AV.tup [(AV.dat (D.str (ByteArray.mk (List.toArray [])))), (AV.dat (D.int IntKind.i64 (6 : Int)))]), G))
      )
     )
     (some ((AV.tup [(AV.dat (D.str (ByteArray.mk (List.toArray [])))), (AV.dat (D.int IntKind.i64 (6 : Int)))]), G))
    )
   )
   (some ((AV.tup [(AV.dat (D.str (ByteArray.mk (List.toArray [])))), (AV.dat (D.int IntKind.i64 (6 : Int)))]), G))
  )
  := by kernel_rfl

attribute [local irreducible] U fnS loS

theorem take_len_app {α : Type} (a b : List α) : List.take (a.length + b.length) (a ++ b) = a ++ b := List.take_of_length_le (by simp)
theorem map_byteRow (l : List UInt8) : List.map byteRow l = bRow l := rfl

theorem toList_nil (s : ByteArray) : (ByteArray.toList s == []) = decide (s.size = 0) := by
  rw [ByteArray.toList_eq]
  cases h : s.data.toList with
  | nil =>
    have : s.size = 0 := by simp [ByteArray.size, h, ← Array.length_toList]
    simp [this]
  | cons a l =>
    have : s.size ≠ 0 := by simp [ByteArray.size, ← Array.length_toList, h]
    simp [this]

theorem toList_len (s : ByteArray) : s.data.toList.length = s.size   := Array.length_toList

/-- can a step be told as bytes? -/
def okS (k nd at' n : Int) (s : ByteArray) (p : Int) (keep : List Bool) : Prop :=
  (s.size = 0 ∨ s.size = 64) ∧ keep.length ≤ 255 ∧ (0 ≤ k ∧ k < 256) ∧ (0 ≤ nd ∧ nd < 256) ∧ (0 ≤ at' ∧ at' < 65536) ∧ (0 ≤ n ∧ n < 65536) ∧ (0 ≤ p ∧ p < 65536)

instance {k nd at' n : Int} {s : ByteArray} {p : Int} {keep : List Bool} : Decidable (okS k nd at' n s p keep) := by unfold okS; infer_instance

/-- a step as bytes -/
def putB (k nd at' n : Int) (s : ByteArray) (p : Int) (keep : List Bool) : List UInt8 :=
  be1 k ++ be1 nd ++ be2 at' ++ be2 n ++ be2 p ++ be1 (if s.size = 0 then 0 else 1) ++ s.data.toList ++ be1 keep.length ++ flags keep

theorem out19_inj {G : List Ent} : ∀ x y, out19 G x = out19 G y → x = y := by
  intro x y h
  simp [out19] at h
  exact h.2
theorem out20_inj {G : List Ent} : ∀ x y, out20 G x = out20 G y → x = y := by
  intro x y h
  simp [out20, mkT] at h
  exact h

theorem be1_len (n : Int) : (be1 n).length = 1 := rfl
theorem be2_len (n : Int) : (be2 n).length = 2 := rfl

def res19 (G : List Ent) (b : Bool) (l : List UInt8) : AV × List Ent := if b then (.tup [.dat (.list .any 1 (bRow l)), .dat (.int .i64 0)], G) else (.tup [.dat (.list .nil 0 []), .dat (.int .i64 6)], G)
def res20 (G : List Ent) (b : Bool) (l : List UInt8) : AV × List Ent := if b then (.tup [.dat (.str ⟨l.toArray⟩), .dat (.int .i64 0)], G) else (.tup [.dat (.str ⟨#[]⟩), .dat (.int .i64 6)], G)

set_option maxHeartbeats 4000000 in
theorem f19_run {k nd at' n : Int} {s : ByteArray} {p : Int} {kk : LK} {keep : List Bool} {G : List Ent} : (f19t k nd at' n s p kk (tRow keep) G).run = some (res19 G (decide (okS k nd at' n s p keep)) (putB k nd at' n s p keep)) := by
  rw [← Tr.ev_run, f19t_eq]
  simp only [List.drop_zero, List.take_length, take_len_app, map_byteRow, Bool.true_and]
  have e0 := toList_nil s
  have el := toList_len s
  have hz : s.size = 0 ∨ 0 < s.size := by omega
  rcases hz with z | z
  all_goals
    by_cases a1 : s.size = 0 ∨ s.size = 64
    case neg => rw [show decide (okS k nd at' n s p keep) = false from decide_eq_false (by unfold okS; omega)]; ((repeat first
    | ((with_reducible refine aT ?_ ?_); · first | with_reducible rfl | with_reducible assumption | (simp only [Bool.and_eq_true, Bool.and_eq_false_iff, Bool.or_eq_true, Bool.true_and, Bool.and_true, decide_eq_true_eq, decide_eq_false_iff_not, Bool.not_eq_true', Bool.not_eq_false', beq_iff_eq, beq_eq_false_iff_ne, bne_iff_ne, bne_eq_false_iff_eq, ne_eq, fits_iff, whole_iff, List.length_append, List.length_map, List.length_cons, List.length_nil, List.length_take, List.length_drop, bRow_length, tRow_length, List.nil_append, Nat.zero_add, Nat.add_zero, Int.toNat_natCast, and_self, and_true, true_and, true_or, or_true, false_or, or_false, not_true_eq_false, not_false_eq_true, e0] <;> omega))
    | ((with_reducible refine aF ?_ ?_); · first | with_reducible rfl | with_reducible assumption | (simp only [Bool.and_eq_true, Bool.and_eq_false_iff, Bool.or_eq_true, Bool.true_and, Bool.and_true, decide_eq_true_eq, decide_eq_false_iff_not, Bool.not_eq_true', Bool.not_eq_false', beq_iff_eq, beq_eq_false_iff_ne, bne_iff_ne, bne_eq_false_iff_eq, ne_eq, fits_iff, whole_iff, List.length_append, List.length_map, List.length_cons, List.length_nil, List.length_take, List.length_drop, bRow_length, tRow_length, List.nil_append, Nat.zero_add, Nat.add_zero, Int.toNat_natCast, and_self, and_true, true_and, true_or, or_true, false_or, or_false, not_true_eq_false, not_false_eq_true, e0] <;> omega))
    | ((with_reducible apply gStep); · first | exact rfl))); rfl
    by_cases a2 : keep.length ≤ 255
    case neg => rw [show decide (okS k nd at' n s p keep) = false from decide_eq_false (by unfold okS; omega)]; ((repeat first
    | ((with_reducible refine aT ?_ ?_); · first | with_reducible rfl | with_reducible assumption | (simp only [Bool.and_eq_true, Bool.and_eq_false_iff, Bool.or_eq_true, Bool.true_and, Bool.and_true, decide_eq_true_eq, decide_eq_false_iff_not, Bool.not_eq_true', Bool.not_eq_false', beq_iff_eq, beq_eq_false_iff_ne, bne_iff_ne, bne_eq_false_iff_eq, ne_eq, fits_iff, whole_iff, List.length_append, List.length_map, List.length_cons, List.length_nil, List.length_take, List.length_drop, bRow_length, tRow_length, List.nil_append, Nat.zero_add, Nat.add_zero, Int.toNat_natCast, and_self, and_true, true_and, true_or, or_true, false_or, or_false, not_true_eq_false, not_false_eq_true, e0] <;> omega))
    | ((with_reducible refine aF ?_ ?_); · first | with_reducible rfl | with_reducible assumption | (simp only [Bool.and_eq_true, Bool.and_eq_false_iff, Bool.or_eq_true, Bool.true_and, Bool.and_true, decide_eq_true_eq, decide_eq_false_iff_not, Bool.not_eq_true', Bool.not_eq_false', beq_iff_eq, beq_eq_false_iff_ne, bne_iff_ne, bne_eq_false_iff_eq, ne_eq, fits_iff, whole_iff, List.length_append, List.length_map, List.length_cons, List.length_nil, List.length_take, List.length_drop, bRow_length, tRow_length, List.nil_append, Nat.zero_add, Nat.add_zero, Int.toNat_natCast, and_self, and_true, true_and, true_or, or_true, false_or, or_false, not_true_eq_false, not_false_eq_true, e0] <;> omega))
    | ((with_reducible apply gStep); · first | exact rfl))); rfl
    by_cases a3 : 0 ≤ k
    case neg => rw [show decide (okS k nd at' n s p keep) = false from decide_eq_false (by unfold okS; omega)]; ((repeat first
    | ((with_reducible refine aT ?_ ?_); · first | with_reducible rfl | with_reducible assumption | (simp only [Bool.and_eq_true, Bool.and_eq_false_iff, Bool.or_eq_true, Bool.true_and, Bool.and_true, decide_eq_true_eq, decide_eq_false_iff_not, Bool.not_eq_true', Bool.not_eq_false', beq_iff_eq, beq_eq_false_iff_ne, bne_iff_ne, bne_eq_false_iff_eq, ne_eq, fits_iff, whole_iff, List.length_append, List.length_map, List.length_cons, List.length_nil, List.length_take, List.length_drop, bRow_length, tRow_length, List.nil_append, Nat.zero_add, Nat.add_zero, Int.toNat_natCast, and_self, and_true, true_and, true_or, or_true, false_or, or_false, not_true_eq_false, not_false_eq_true, e0] <;> omega))
    | ((with_reducible refine aF ?_ ?_); · first | with_reducible rfl | with_reducible assumption | (simp only [Bool.and_eq_true, Bool.and_eq_false_iff, Bool.or_eq_true, Bool.true_and, Bool.and_true, decide_eq_true_eq, decide_eq_false_iff_not, Bool.not_eq_true', Bool.not_eq_false', beq_iff_eq, beq_eq_false_iff_ne, bne_iff_ne, bne_eq_false_iff_eq, ne_eq, fits_iff, whole_iff, List.length_append, List.length_map, List.length_cons, List.length_nil, List.length_take, List.length_drop, bRow_length, tRow_length, List.nil_append, Nat.zero_add, Nat.add_zero, Int.toNat_natCast, and_self, and_true, true_and, true_or, or_true, false_or, or_false, not_true_eq_false, not_false_eq_true, e0] <;> omega))
    | ((with_reducible apply gStep); · first | exact rfl))); rfl
    by_cases a4 : k < 256
    case neg => rw [show decide (okS k nd at' n s p keep) = false from decide_eq_false (by unfold okS; omega)]; ((repeat first
    | ((with_reducible refine aT ?_ ?_); · first | with_reducible rfl | with_reducible assumption | (simp only [Bool.and_eq_true, Bool.and_eq_false_iff, Bool.or_eq_true, Bool.true_and, Bool.and_true, decide_eq_true_eq, decide_eq_false_iff_not, Bool.not_eq_true', Bool.not_eq_false', beq_iff_eq, beq_eq_false_iff_ne, bne_iff_ne, bne_eq_false_iff_eq, ne_eq, fits_iff, whole_iff, List.length_append, List.length_map, List.length_cons, List.length_nil, List.length_take, List.length_drop, bRow_length, tRow_length, List.nil_append, Nat.zero_add, Nat.add_zero, Int.toNat_natCast, and_self, and_true, true_and, true_or, or_true, false_or, or_false, not_true_eq_false, not_false_eq_true, e0] <;> omega))
    | ((with_reducible refine aF ?_ ?_); · first | with_reducible rfl | with_reducible assumption | (simp only [Bool.and_eq_true, Bool.and_eq_false_iff, Bool.or_eq_true, Bool.true_and, Bool.and_true, decide_eq_true_eq, decide_eq_false_iff_not, Bool.not_eq_true', Bool.not_eq_false', beq_iff_eq, beq_eq_false_iff_ne, bne_iff_ne, bne_eq_false_iff_eq, ne_eq, fits_iff, whole_iff, List.length_append, List.length_map, List.length_cons, List.length_nil, List.length_take, List.length_drop, bRow_length, tRow_length, List.nil_append, Nat.zero_add, Nat.add_zero, Int.toNat_natCast, and_self, and_true, true_and, true_or, or_true, false_or, or_false, not_true_eq_false, not_false_eq_true, e0] <;> omega))
    | ((with_reducible apply gStep); · first | exact rfl))); rfl
    have wk : IntKind.wrap .u64 k = k := IntWalk.u64_in k (by omega)
    simp only [wk]
    clear wk
    by_cases a5 : 0 ≤ nd
    case neg => rw [show decide (okS k nd at' n s p keep) = false from decide_eq_false (by unfold okS; omega)]; ((repeat first
    | ((with_reducible refine aT ?_ ?_); · first | with_reducible rfl | with_reducible assumption | (simp only [Bool.and_eq_true, Bool.and_eq_false_iff, Bool.or_eq_true, Bool.true_and, Bool.and_true, decide_eq_true_eq, decide_eq_false_iff_not, Bool.not_eq_true', Bool.not_eq_false', beq_iff_eq, beq_eq_false_iff_ne, bne_iff_ne, bne_eq_false_iff_eq, ne_eq, fits_iff, whole_iff, List.length_append, List.length_map, List.length_cons, List.length_nil, List.length_take, List.length_drop, bRow_length, tRow_length, List.nil_append, Nat.zero_add, Nat.add_zero, Int.toNat_natCast, and_self, and_true, true_and, true_or, or_true, false_or, or_false, not_true_eq_false, not_false_eq_true, e0] <;> omega))
    | ((with_reducible refine aF ?_ ?_); · first | with_reducible rfl | with_reducible assumption | (simp only [Bool.and_eq_true, Bool.and_eq_false_iff, Bool.or_eq_true, Bool.true_and, Bool.and_true, decide_eq_true_eq, decide_eq_false_iff_not, Bool.not_eq_true', Bool.not_eq_false', beq_iff_eq, beq_eq_false_iff_ne, bne_iff_ne, bne_eq_false_iff_eq, ne_eq, fits_iff, whole_iff, List.length_append, List.length_map, List.length_cons, List.length_nil, List.length_take, List.length_drop, bRow_length, tRow_length, List.nil_append, Nat.zero_add, Nat.add_zero, Int.toNat_natCast, and_self, and_true, true_and, true_or, or_true, false_or, or_false, not_true_eq_false, not_false_eq_true, e0] <;> omega))
    | ((with_reducible apply gStep); · first | exact rfl | exact c35_0 (by omega)))); rfl
    by_cases a6 : nd < 256
    case neg => rw [show decide (okS k nd at' n s p keep) = false from decide_eq_false (by unfold okS; omega)]; ((repeat first
    | ((with_reducible refine aT ?_ ?_); · first | with_reducible rfl | with_reducible assumption | (simp only [Bool.and_eq_true, Bool.and_eq_false_iff, Bool.or_eq_true, Bool.true_and, Bool.and_true, decide_eq_true_eq, decide_eq_false_iff_not, Bool.not_eq_true', Bool.not_eq_false', beq_iff_eq, beq_eq_false_iff_ne, bne_iff_ne, bne_eq_false_iff_eq, ne_eq, fits_iff, whole_iff, List.length_append, List.length_map, List.length_cons, List.length_nil, List.length_take, List.length_drop, bRow_length, tRow_length, List.nil_append, Nat.zero_add, Nat.add_zero, Int.toNat_natCast, and_self, and_true, true_and, true_or, or_true, false_or, or_false, not_true_eq_false, not_false_eq_true, e0] <;> omega))
    | ((with_reducible refine aF ?_ ?_); · first | with_reducible rfl | with_reducible assumption | (simp only [Bool.and_eq_true, Bool.and_eq_false_iff, Bool.or_eq_true, Bool.true_and, Bool.and_true, decide_eq_true_eq, decide_eq_false_iff_not, Bool.not_eq_true', Bool.not_eq_false', beq_iff_eq, beq_eq_false_iff_ne, bne_iff_ne, bne_eq_false_iff_eq, ne_eq, fits_iff, whole_iff, List.length_append, List.length_map, List.length_cons, List.length_nil, List.length_take, List.length_drop, bRow_length, tRow_length, List.nil_append, Nat.zero_add, Nat.add_zero, Int.toNat_natCast, and_self, and_true, true_and, true_or, or_true, false_or, or_false, not_true_eq_false, not_false_eq_true, e0] <;> omega))
    | ((with_reducible apply gStep); · first | exact rfl | exact c35_0 (by omega)))); rfl
    have wnd : IntKind.wrap .u64 nd = nd := IntWalk.u64_in nd (by omega)
    simp only [wnd]
    clear wnd
    by_cases a7 : 0 ≤ at'
    case neg => rw [show decide (okS k nd at' n s p keep) = false from decide_eq_false (by unfold okS; omega)]; ((repeat first
    | ((with_reducible refine aT ?_ ?_); · first | with_reducible rfl | with_reducible assumption | (simp only [Bool.and_eq_true, Bool.and_eq_false_iff, Bool.or_eq_true, Bool.true_and, Bool.and_true, decide_eq_true_eq, decide_eq_false_iff_not, Bool.not_eq_true', Bool.not_eq_false', beq_iff_eq, beq_eq_false_iff_ne, bne_iff_ne, bne_eq_false_iff_eq, ne_eq, fits_iff, whole_iff, List.length_append, List.length_map, List.length_cons, List.length_nil, List.length_take, List.length_drop, bRow_length, tRow_length, List.nil_append, Nat.zero_add, Nat.add_zero, Int.toNat_natCast, and_self, and_true, true_and, true_or, or_true, false_or, or_false, not_true_eq_false, not_false_eq_true, e0] <;> omega))
    | ((with_reducible refine aF ?_ ?_); · first | with_reducible rfl | with_reducible assumption | (simp only [Bool.and_eq_true, Bool.and_eq_false_iff, Bool.or_eq_true, Bool.true_and, Bool.and_true, decide_eq_true_eq, decide_eq_false_iff_not, Bool.not_eq_true', Bool.not_eq_false', beq_iff_eq, beq_eq_false_iff_ne, bne_iff_ne, bne_eq_false_iff_eq, ne_eq, fits_iff, whole_iff, List.length_append, List.length_map, List.length_cons, List.length_nil, List.length_take, List.length_drop, bRow_length, tRow_length, List.nil_append, Nat.zero_add, Nat.add_zero, Int.toNat_natCast, and_self, and_true, true_and, true_or, or_true, false_or, or_false, not_true_eq_false, not_false_eq_true, e0] <;> omega))
    | ((with_reducible apply gStep); · first | exact rfl | exact c35_0 (by omega) | exact c35_1 (by omega) (by simp [be1_len, be2_len])))); rfl
    by_cases a8 : at' < 65536
    case neg => rw [show decide (okS k nd at' n s p keep) = false from decide_eq_false (by unfold okS; omega)]; ((repeat first
    | ((with_reducible refine aT ?_ ?_); · first | with_reducible rfl | with_reducible assumption | (simp only [Bool.and_eq_true, Bool.and_eq_false_iff, Bool.or_eq_true, Bool.true_and, Bool.and_true, decide_eq_true_eq, decide_eq_false_iff_not, Bool.not_eq_true', Bool.not_eq_false', beq_iff_eq, beq_eq_false_iff_ne, bne_iff_ne, bne_eq_false_iff_eq, ne_eq, fits_iff, whole_iff, List.length_append, List.length_map, List.length_cons, List.length_nil, List.length_take, List.length_drop, bRow_length, tRow_length, List.nil_append, Nat.zero_add, Nat.add_zero, Int.toNat_natCast, and_self, and_true, true_and, true_or, or_true, false_or, or_false, not_true_eq_false, not_false_eq_true, e0] <;> omega))
    | ((with_reducible refine aF ?_ ?_); · first | with_reducible rfl | with_reducible assumption | (simp only [Bool.and_eq_true, Bool.and_eq_false_iff, Bool.or_eq_true, Bool.true_and, Bool.and_true, decide_eq_true_eq, decide_eq_false_iff_not, Bool.not_eq_true', Bool.not_eq_false', beq_iff_eq, beq_eq_false_iff_ne, bne_iff_ne, bne_eq_false_iff_eq, ne_eq, fits_iff, whole_iff, List.length_append, List.length_map, List.length_cons, List.length_nil, List.length_take, List.length_drop, bRow_length, tRow_length, List.nil_append, Nat.zero_add, Nat.add_zero, Int.toNat_natCast, and_self, and_true, true_and, true_or, or_true, false_or, or_false, not_true_eq_false, not_false_eq_true, e0] <;> omega))
    | ((with_reducible apply gStep); · first | exact rfl | exact c35_0 (by omega) | exact c35_1 (by omega) (by simp [be1_len, be2_len])))); rfl
    have wat : IntKind.wrap .u64 at' = at' := IntWalk.u64_in at' (by omega)
    simp only [wat]
    clear wat
    by_cases a9 : 0 ≤ n
    case neg => rw [show decide (okS k nd at' n s p keep) = false from decide_eq_false (by unfold okS; omega)]; ((repeat first
    | ((with_reducible refine aT ?_ ?_); · first | with_reducible rfl | with_reducible assumption | (simp only [Bool.and_eq_true, Bool.and_eq_false_iff, Bool.or_eq_true, Bool.true_and, Bool.and_true, decide_eq_true_eq, decide_eq_false_iff_not, Bool.not_eq_true', Bool.not_eq_false', beq_iff_eq, beq_eq_false_iff_ne, bne_iff_ne, bne_eq_false_iff_eq, ne_eq, fits_iff, whole_iff, List.length_append, List.length_map, List.length_cons, List.length_nil, List.length_take, List.length_drop, bRow_length, tRow_length, List.nil_append, Nat.zero_add, Nat.add_zero, Int.toNat_natCast, and_self, and_true, true_and, true_or, or_true, false_or, or_false, not_true_eq_false, not_false_eq_true, e0] <;> omega))
    | ((with_reducible refine aF ?_ ?_); · first | with_reducible rfl | with_reducible assumption | (simp only [Bool.and_eq_true, Bool.and_eq_false_iff, Bool.or_eq_true, Bool.true_and, Bool.and_true, decide_eq_true_eq, decide_eq_false_iff_not, Bool.not_eq_true', Bool.not_eq_false', beq_iff_eq, beq_eq_false_iff_ne, bne_iff_ne, bne_eq_false_iff_eq, ne_eq, fits_iff, whole_iff, List.length_append, List.length_map, List.length_cons, List.length_nil, List.length_take, List.length_drop, bRow_length, tRow_length, List.nil_append, Nat.zero_add, Nat.add_zero, Int.toNat_natCast, and_self, and_true, true_and, true_or, or_true, false_or, or_false, not_true_eq_false, not_false_eq_true, e0] <;> omega))
    | ((with_reducible apply gStep); · first | exact rfl | exact c35_0 (by omega) | exact c35_1 (by omega) (by simp [be1_len, be2_len]) | exact c35_2 (by omega) (by simp [be1_len, be2_len])))); rfl
    by_cases a10 : n < 65536
    case neg => rw [show decide (okS k nd at' n s p keep) = false from decide_eq_false (by unfold okS; omega)]; ((repeat first
    | ((with_reducible refine aT ?_ ?_); · first | with_reducible rfl | with_reducible assumption | (simp only [Bool.and_eq_true, Bool.and_eq_false_iff, Bool.or_eq_true, Bool.true_and, Bool.and_true, decide_eq_true_eq, decide_eq_false_iff_not, Bool.not_eq_true', Bool.not_eq_false', beq_iff_eq, beq_eq_false_iff_ne, bne_iff_ne, bne_eq_false_iff_eq, ne_eq, fits_iff, whole_iff, List.length_append, List.length_map, List.length_cons, List.length_nil, List.length_take, List.length_drop, bRow_length, tRow_length, List.nil_append, Nat.zero_add, Nat.add_zero, Int.toNat_natCast, and_self, and_true, true_and, true_or, or_true, false_or, or_false, not_true_eq_false, not_false_eq_true, e0] <;> omega))
    | ((with_reducible refine aF ?_ ?_); · first | with_reducible rfl | with_reducible assumption | (simp only [Bool.and_eq_true, Bool.and_eq_false_iff, Bool.or_eq_true, Bool.true_and, Bool.and_true, decide_eq_true_eq, decide_eq_false_iff_not, Bool.not_eq_true', Bool.not_eq_false', beq_iff_eq, beq_eq_false_iff_ne, bne_iff_ne, bne_eq_false_iff_eq, ne_eq, fits_iff, whole_iff, List.length_append, List.length_map, List.length_cons, List.length_nil, List.length_take, List.length_drop, bRow_length, tRow_length, List.nil_append, Nat.zero_add, Nat.add_zero, Int.toNat_natCast, and_self, and_true, true_and, true_or, or_true, false_or, or_false, not_true_eq_false, not_false_eq_true, e0] <;> omega))
    | ((with_reducible apply gStep); · first | exact rfl | exact c35_0 (by omega) | exact c35_1 (by omega) (by simp [be1_len, be2_len]) | exact c35_2 (by omega) (by simp [be1_len, be2_len])))); rfl
    have wn : IntKind.wrap .u64 n = n := IntWalk.u64_in n (by omega)
    simp only [wn]
    clear wn
    by_cases a11 : 0 ≤ p
    case neg => rw [show decide (okS k nd at' n s p keep) = false from decide_eq_false (by unfold okS; omega)]; ((repeat first
    | ((with_reducible refine aT ?_ ?_); · first | with_reducible rfl | with_reducible assumption | (simp only [Bool.and_eq_true, Bool.and_eq_false_iff, Bool.or_eq_true, Bool.true_and, Bool.and_true, decide_eq_true_eq, decide_eq_false_iff_not, Bool.not_eq_true', Bool.not_eq_false', beq_iff_eq, beq_eq_false_iff_ne, bne_iff_ne, bne_eq_false_iff_eq, ne_eq, fits_iff, whole_iff, List.length_append, List.length_map, List.length_cons, List.length_nil, List.length_take, List.length_drop, bRow_length, tRow_length, List.nil_append, Nat.zero_add, Nat.add_zero, Int.toNat_natCast, and_self, and_true, true_and, true_or, or_true, false_or, or_false, not_true_eq_false, not_false_eq_true, e0] <;> omega))
    | ((with_reducible refine aF ?_ ?_); · first | with_reducible rfl | with_reducible assumption | (simp only [Bool.and_eq_true, Bool.and_eq_false_iff, Bool.or_eq_true, Bool.true_and, Bool.and_true, decide_eq_true_eq, decide_eq_false_iff_not, Bool.not_eq_true', Bool.not_eq_false', beq_iff_eq, beq_eq_false_iff_ne, bne_iff_ne, bne_eq_false_iff_eq, ne_eq, fits_iff, whole_iff, List.length_append, List.length_map, List.length_cons, List.length_nil, List.length_take, List.length_drop, bRow_length, tRow_length, List.nil_append, Nat.zero_add, Nat.add_zero, Int.toNat_natCast, and_self, and_true, true_and, true_or, or_true, false_or, or_false, not_true_eq_false, not_false_eq_true, e0] <;> omega))
    | ((with_reducible apply gStep); · first | exact rfl | exact c35_0 (by omega) | exact c35_1 (by omega) (by simp [be1_len, be2_len]) | exact c35_2 (by omega) (by simp [be1_len, be2_len])))); rfl
    by_cases a12 : p < 65536
    case neg => rw [show decide (okS k nd at' n s p keep) = false from decide_eq_false (by unfold okS; omega)]; ((repeat first
    | ((with_reducible refine aT ?_ ?_); · first | with_reducible rfl | with_reducible assumption | (simp only [Bool.and_eq_true, Bool.and_eq_false_iff, Bool.or_eq_true, Bool.true_and, Bool.and_true, decide_eq_true_eq, decide_eq_false_iff_not, Bool.not_eq_true', Bool.not_eq_false', beq_iff_eq, beq_eq_false_iff_ne, bne_iff_ne, bne_eq_false_iff_eq, ne_eq, fits_iff, whole_iff, List.length_append, List.length_map, List.length_cons, List.length_nil, List.length_take, List.length_drop, bRow_length, tRow_length, List.nil_append, Nat.zero_add, Nat.add_zero, Int.toNat_natCast, and_self, and_true, true_and, true_or, or_true, false_or, or_false, not_true_eq_false, not_false_eq_true, e0] <;> omega))
    | ((with_reducible refine aF ?_ ?_); · first | with_reducible rfl | with_reducible assumption | (simp only [Bool.and_eq_true, Bool.and_eq_false_iff, Bool.or_eq_true, Bool.true_and, Bool.and_true, decide_eq_true_eq, decide_eq_false_iff_not, Bool.not_eq_true', Bool.not_eq_false', beq_iff_eq, beq_eq_false_iff_ne, bne_iff_ne, bne_eq_false_iff_eq, ne_eq, fits_iff, whole_iff, List.length_append, List.length_map, List.length_cons, List.length_nil, List.length_take, List.length_drop, bRow_length, tRow_length, List.nil_append, Nat.zero_add, Nat.add_zero, Int.toNat_natCast, and_self, and_true, true_and, true_or, or_true, false_or, or_false, not_true_eq_false, not_false_eq_true, e0] <;> omega))
    | ((with_reducible apply gStep); · first | exact rfl | exact c35_0 (by omega) | exact c35_1 (by omega) (by simp [be1_len, be2_len]) | exact c35_2 (by omega) (by simp [be1_len, be2_len])))); rfl
    have wp : IntKind.wrap .u64 p = p := IntWalk.u64_in p (by omega)
    have wl : IntKind.wrap .u64 (((tRow keep).length : Nat) : Int) = (keep.length : Int) := by rw [tRow_length]; exact IntWalk.u64_in _ (by omega)
    simp only [wp, wl]
    clear wp wl
    rw [show decide (okS k nd at' n s p keep) = true from decide_eq_true (by unfold okS; omega)]
    ((repeat first
    | ((with_reducible refine aT ?_ ?_); · first | with_reducible rfl | with_reducible assumption | (simp only [Bool.and_eq_true, Bool.and_eq_false_iff, Bool.or_eq_true, Bool.true_and, Bool.and_true, decide_eq_true_eq, decide_eq_false_iff_not, Bool.not_eq_true', Bool.not_eq_false', beq_iff_eq, beq_eq_false_iff_ne, bne_iff_ne, bne_eq_false_iff_eq, ne_eq, fits_iff, whole_iff, List.length_append, List.length_map, List.length_cons, List.length_nil, List.length_take, List.length_drop, bRow_length, tRow_length, List.nil_append, Nat.zero_add, Nat.add_zero, Int.toNat_natCast, and_self, and_true, true_and, true_or, or_true, false_or, or_false, not_true_eq_false, not_false_eq_true, e0, be1_len, be2_len] <;> omega))
    | ((with_reducible refine aF ?_ ?_); · first | with_reducible rfl | with_reducible assumption | (simp only [Bool.and_eq_true, Bool.and_eq_false_iff, Bool.or_eq_true, Bool.true_and, Bool.and_true, decide_eq_true_eq, decide_eq_false_iff_not, Bool.not_eq_true', Bool.not_eq_false', beq_iff_eq, beq_eq_false_iff_ne, bne_iff_ne, bne_eq_false_iff_eq, ne_eq, fits_iff, whole_iff, List.length_append, List.length_map, List.length_cons, List.length_nil, List.length_take, List.length_drop, bRow_length, tRow_length, List.nil_append, Nat.zero_add, Nat.add_zero, Int.toNat_natCast, and_self, and_true, true_and, true_or, or_true, false_or, or_false, not_true_eq_false, not_false_eq_true, e0, be1_len, be2_len] <;> omega))
    | ((with_reducible apply gStep); · first | exact rfl | exact c35_0 (by omega) | exact c35_1 (by omega) (by simp [be1_len, be2_len]) | exact c35_2 (by omega) (by simp [be1_len, be2_len]) | (rw [← bRow_append]; exact c35_1 (by omega) (by simp [be1_len, be2_len]; omega)) | exact loS_eq out19_inj (loop19 (by simp [be1_len, be2_len]; omega) (by omega)))))
    simp only [res19, putB, z, if_true]
    try rw [if_neg (show ¬ s.size = 0 by omega)]

end Go.Eng
end

/- Steps as bytes: the reference's Put; whether two steps are alike. -/
section
namespace Go.Eng
open Go
set_option maxRecDepth 100000
set_option linter.unusedSimpArgs false

attribute [local irreducible] U fnS loS

theorem f22t_eq (sz : Nat) (k nd at' n : Int) (s : ByteArray) (p : Int) (kk : LK) (ks : Row) (k' nd' at'' n' : Int) (s' : ByteArray) (p' : Int) (kk' : LK) (ks' : Row) (G : List Ent) : (f22t sz k nd at' n s p kk ks k' nd' at'' n' s' p' kk' ks' G).ev =
  (rAsk (k != k')
   (some ((AV.dat (D.bool false)), G))
   (rAsk (nd != nd')
    (some ((AV.dat (D.bool false)), G))
    (rAsk (at' != at'')
     (some ((AV.dat (D.bool false)), G))
     (rAsk (n != n')
      (some ((AV.dat (D.bool false)), G))
      (rAsk (!((ByteArray.toList s) == (ByteArray.toList s')))
       (some ((AV.dat (D.bool false)), G))
       (rAsk (p != p')
        (some ((AV.dat (D.bool false)), G))
        (rAsk ((((List.length ks) : Nat) : Int) != (((List.length ks') : Nat) : Int))
         (some ((AV.dat (D.bool false)), G))
         (rGet (loS TT (TOrc.runs tNone) (HSa 22) lp22 (out22 G) (St.mk (mkT 0 73 [(2, (AV.ptr (Ref.loc 0) 0)), (3, (AV.ptr (Ref.loc 1) 0)), (5, (AV.dat (D.int IntKind.i64 (0 : Int))))]) (Mem.mk [(Option.some (Ent.obj [(AV.dat (D.int IntKind.i64 k)), (AV.dat (D.int IntKind.i64 nd)), (AV.dat (D.int IntKind.i64 at')), (AV.dat (D.int IntKind.i64 n)), (AV.dat (D.str s)), (AV.dat (D.int IntKind.i64 p)), (AV.dat (D.list kk sz ks))])), (Option.some (Ent.obj [(AV.dat (D.int IntKind.i64 k')), (AV.dat (D.int IntKind.i64 nd')), (AV.dat (D.int IntKind.i64 at'')), (AV.dat (D.int IntKind.i64 n')), (AV.dat (D.str s')), (AV.dat (D.int IntKind.i64 p')), (AV.dat (D.list kk' 1 ks'))]))] G 0))) fun x1 =>
          (rAsk x1
           (some ((AV.dat (D.bool true)), G))
           (some ((AV.dat (D.bool false)), G))
          )
         )
        )
       )
      )
     )
    )
   )
  )
  := by kernel_rfl

theorem f41t_eq (k1 : LK) (xs : Row) (k2 : LK) (ys : Row) (G : List Ent) : (f41t k1 xs k2 ys G).ev =
  (rAsk ((((List.length xs) : Nat) : Int) != (((List.length ys) : Nat) : Int))
   (some ((AV.dat (D.bool false)), G))
   (rGet (loS TT (TOrc.runs tNone) (HSa 41) lp41 (outB 26 G) (St.mk (mkT 0 26 [(0, (AV.dat (D.list k1 1 xs))), (1, (AV.dat (D.list k2 1 ys))), (12, (AV.dat (D.int IntKind.i64 (((List.length xs) : Nat) : Int)))), (13, (AV.dat (D.int IntKind.i64 (0 : Int))))]) (Mem.mk [] G 0))) fun x1 =>
    (rAsk x1
     (some ((AV.dat (D.bool true)), G))
     (some ((AV.dat (D.bool false)), G))
    )
   )
  )
  := by kernel_rfl

theorem f21t_eq (k nd at' n : Int) (s : ByteArray) (p : Int) (kk : LK) (ks : Row) (k' nd' at'' n' : Int) (s' : ByteArray) (p' : Int) (kk' : LK) (ks' : Row) (G : List Ent) : (f21t k nd at' n s p kk ks k' nd' at'' n' s' p' kk' ks' G).ev =
  (rAsk ((true && ((k == k') && true)) && ((true && ((nd == nd') && true)) && ((true && ((at' == at'') && true)) && ((true && ((n == n') && true)) && ((true && ((p == p') && true)) && true)))))
   (rAsk ((ByteArray.toList s) == (ByteArray.toList s'))
    (rGet (fnS (fun (b : Bool) => ((AV.dat (D.bool b)), G)) (R41 [(AV.dat (D.list kk 1 ks)), (AV.dat (D.list kk' 1 ks'))] G)) fun x1 =>
     (some ((AV.dat (D.bool x1)), G))
    )
    (some ((AV.dat (D.bool false)), G))
   )
   (some ((AV.dat (D.bool false)), G))
  )
  := by kernel_rfl

theorem fl_be (s : ByteArray) : (⟨#[fl (!decide (s.size = 0))]⟩ : ByteArray) = ⟨(be1 (if s.size = 0 then 0 else 1)).toArray⟩ := by
  by_cases h : s.size = 0
  · simp [h, fl, be1]
  · simp [h, fl, be1]

theorem ba_data (s : ByteArray) : (⟨s.data.toList.toArray⟩ : ByteArray) = s := by simp

set_option maxHeartbeats 4000000 in
theorem f20_run {k nd at' n : Int} {s : ByteArray} {p : Int} {kk : LK} {keep : List Bool} {G : List Ent} : (f20t k nd at' n s p kk (tRow keep) G).run = some (res20 G (decide (okS k nd at' n s p keep)) (putB k nd at' n s p keep)) := by
  rw [← Tr.ev_run, f20t_eq]
  simp only [toList_nil s, tRow_length]
  have hz : s.size = 0 ∨ 0 < s.size := by omega
  rcases hz with z | z
  all_goals
    by_cases a3 : 0 ≤ k
    case neg => rw [show decide (okS k nd at' n s p keep) = false from decide_eq_false (by unfold okS; omega)]; ((repeat first
    | ((with_reducible refine aT ?_ ?_); · first | with_reducible rfl | with_reducible assumption | (simp only [Bool.and_eq_true, Bool.and_eq_false_iff, Bool.or_eq_true, Bool.true_and, Bool.and_true, decide_eq_true_eq, decide_eq_false_iff_not, Bool.not_eq_true', Bool.not_eq_false', beq_iff_eq, beq_eq_false_iff_ne, bne_iff_ne, bne_eq_false_iff_eq, ne_eq, fits_iff, whole_iff, List.length_append, List.length_map, List.length_cons, List.length_nil, List.length_take, List.length_drop, bRow_length, tRow_length, List.nil_append, Nat.zero_add, Nat.add_zero, Int.toNat_natCast, and_self, and_true, true_and, true_or, or_true, false_or, or_false, not_true_eq_false, not_false_eq_true] <;> omega))
    | ((with_reducible refine aF ?_ ?_); · first | with_reducible rfl | with_reducible assumption | (simp only [Bool.and_eq_true, Bool.and_eq_false_iff, Bool.or_eq_true, Bool.true_and, Bool.and_true, decide_eq_true_eq, decide_eq_false_iff_not, Bool.not_eq_true', Bool.not_eq_false', beq_iff_eq, beq_eq_false_iff_ne, bne_iff_ne, bne_eq_false_iff_eq, ne_eq, fits_iff, whole_iff, List.length_append, List.length_map, List.length_cons, List.length_nil, List.length_take, List.length_drop, bRow_length, tRow_length, List.nil_append, Nat.zero_add, Nat.add_zero, Int.toNat_natCast, and_self, and_true, true_and, true_or, or_true, false_or, or_false, not_true_eq_false, not_false_eq_true] <;> omega))
    | ((with_reducible apply gStep); · first | exact rfl))); rfl
    by_cases a4 : k < 256
    case neg => rw [show decide (okS k nd at' n s p keep) = false from decide_eq_false (by unfold okS; omega)]; ((repeat first
    | ((with_reducible refine aT ?_ ?_); · first | with_reducible rfl | with_reducible assumption | (simp only [Bool.and_eq_true, Bool.and_eq_false_iff, Bool.or_eq_true, Bool.true_and, Bool.and_true, decide_eq_true_eq, decide_eq_false_iff_not, Bool.not_eq_true', Bool.not_eq_false', beq_iff_eq, beq_eq_false_iff_ne, bne_iff_ne, bne_eq_false_iff_eq, ne_eq, fits_iff, whole_iff, List.length_append, List.length_map, List.length_cons, List.length_nil, List.length_take, List.length_drop, bRow_length, tRow_length, List.nil_append, Nat.zero_add, Nat.add_zero, Int.toNat_natCast, and_self, and_true, true_and, true_or, or_true, false_or, or_false, not_true_eq_false, not_false_eq_true] <;> omega))
    | ((with_reducible refine aF ?_ ?_); · first | with_reducible rfl | with_reducible assumption | (simp only [Bool.and_eq_true, Bool.and_eq_false_iff, Bool.or_eq_true, Bool.true_and, Bool.and_true, decide_eq_true_eq, decide_eq_false_iff_not, Bool.not_eq_true', Bool.not_eq_false', beq_iff_eq, beq_eq_false_iff_ne, bne_iff_ne, bne_eq_false_iff_eq, ne_eq, fits_iff, whole_iff, List.length_append, List.length_map, List.length_cons, List.length_nil, List.length_take, List.length_drop, bRow_length, tRow_length, List.nil_append, Nat.zero_add, Nat.add_zero, Int.toNat_natCast, and_self, and_true, true_and, true_or, or_true, false_or, or_false, not_true_eq_false, not_false_eq_true] <;> omega))
    | ((with_reducible apply gStep); · first | exact rfl))); rfl
    have wk : IntKind.wrap .u64 k = k := IntWalk.u64_in k (by omega)
    simp only [wk]
    clear wk
    by_cases a5 : 0 ≤ nd
    case neg => rw [show decide (okS k nd at' n s p keep) = false from decide_eq_false (by unfold okS; omega)]; ((repeat first
    | ((with_reducible refine aT ?_ ?_); · first | with_reducible rfl | with_reducible assumption | (simp only [Bool.and_eq_true, Bool.and_eq_false_iff, Bool.or_eq_true, Bool.true_and, Bool.and_true, decide_eq_true_eq, decide_eq_false_iff_not, Bool.not_eq_true', Bool.not_eq_false', beq_iff_eq, beq_eq_false_iff_ne, bne_iff_ne, bne_eq_false_iff_eq, ne_eq, fits_iff, whole_iff, List.length_append, List.length_map, List.length_cons, List.length_nil, List.length_take, List.length_drop, bRow_length, tRow_length, List.nil_append, Nat.zero_add, Nat.add_zero, Int.toNat_natCast, and_self, and_true, true_and, true_or, or_true, false_or, or_false, not_true_eq_false, not_false_eq_true] <;> omega))
    | ((with_reducible refine aF ?_ ?_); · first | with_reducible rfl | with_reducible assumption | (simp only [Bool.and_eq_true, Bool.and_eq_false_iff, Bool.or_eq_true, Bool.true_and, Bool.and_true, decide_eq_true_eq, decide_eq_false_iff_not, Bool.not_eq_true', Bool.not_eq_false', beq_iff_eq, beq_eq_false_iff_ne, bne_iff_ne, bne_eq_false_iff_eq, ne_eq, fits_iff, whole_iff, List.length_append, List.length_map, List.length_cons, List.length_nil, List.length_take, List.length_drop, bRow_length, tRow_length, List.nil_append, Nat.zero_add, Nat.add_zero, Int.toNat_natCast, and_self, and_true, true_and, true_or, or_true, false_or, or_false, not_true_eq_false, not_false_eq_true] <;> omega))
    | ((with_reducible apply gStep); · first | exact rfl))); rfl
    by_cases a6 : nd < 256
    case neg => rw [show decide (okS k nd at' n s p keep) = false from decide_eq_false (by unfold okS; omega)]; ((repeat first
    | ((with_reducible refine aT ?_ ?_); · first | with_reducible rfl | with_reducible assumption | (simp only [Bool.and_eq_true, Bool.and_eq_false_iff, Bool.or_eq_true, Bool.true_and, Bool.and_true, decide_eq_true_eq, decide_eq_false_iff_not, Bool.not_eq_true', Bool.not_eq_false', beq_iff_eq, beq_eq_false_iff_ne, bne_iff_ne, bne_eq_false_iff_eq, ne_eq, fits_iff, whole_iff, List.length_append, List.length_map, List.length_cons, List.length_nil, List.length_take, List.length_drop, bRow_length, tRow_length, List.nil_append, Nat.zero_add, Nat.add_zero, Int.toNat_natCast, and_self, and_true, true_and, true_or, or_true, false_or, or_false, not_true_eq_false, not_false_eq_true] <;> omega))
    | ((with_reducible refine aF ?_ ?_); · first | with_reducible rfl | with_reducible assumption | (simp only [Bool.and_eq_true, Bool.and_eq_false_iff, Bool.or_eq_true, Bool.true_and, Bool.and_true, decide_eq_true_eq, decide_eq_false_iff_not, Bool.not_eq_true', Bool.not_eq_false', beq_iff_eq, beq_eq_false_iff_ne, bne_iff_ne, bne_eq_false_iff_eq, ne_eq, fits_iff, whole_iff, List.length_append, List.length_map, List.length_cons, List.length_nil, List.length_take, List.length_drop, bRow_length, tRow_length, List.nil_append, Nat.zero_add, Nat.add_zero, Int.toNat_natCast, and_self, and_true, true_and, true_or, or_true, false_or, or_false, not_true_eq_false, not_false_eq_true] <;> omega))
    | ((with_reducible apply gStep); · first | exact rfl))); rfl
    have wnd : IntKind.wrap .u64 nd = nd := IntWalk.u64_in nd (by omega)
    simp only [wnd]
    clear wnd
    by_cases a7 : 0 ≤ at'
    case neg => rw [show decide (okS k nd at' n s p keep) = false from decide_eq_false (by unfold okS; omega)]; ((repeat first
    | ((with_reducible refine aT ?_ ?_); · first | with_reducible rfl | with_reducible assumption | (simp only [Bool.and_eq_true, Bool.and_eq_false_iff, Bool.or_eq_true, Bool.true_and, Bool.and_true, decide_eq_true_eq, decide_eq_false_iff_not, Bool.not_eq_true', Bool.not_eq_false', beq_iff_eq, beq_eq_false_iff_ne, bne_iff_ne, bne_eq_false_iff_eq, ne_eq, fits_iff, whole_iff, List.length_append, List.length_map, List.length_cons, List.length_nil, List.length_take, List.length_drop, bRow_length, tRow_length, List.nil_append, Nat.zero_add, Nat.add_zero, Int.toNat_natCast, and_self, and_true, true_and, true_or, or_true, false_or, or_false, not_true_eq_false, not_false_eq_true] <;> omega))
    | ((with_reducible refine aF ?_ ?_); · first | with_reducible rfl | with_reducible assumption | (simp only [Bool.and_eq_true, Bool.and_eq_false_iff, Bool.or_eq_true, Bool.true_and, Bool.and_true, decide_eq_true_eq, decide_eq_false_iff_not, Bool.not_eq_true', Bool.not_eq_false', beq_iff_eq, beq_eq_false_iff_ne, bne_iff_ne, bne_eq_false_iff_eq, ne_eq, fits_iff, whole_iff, List.length_append, List.length_map, List.length_cons, List.length_nil, List.length_take, List.length_drop, bRow_length, tRow_length, List.nil_append, Nat.zero_add, Nat.add_zero, Int.toNat_natCast, and_self, and_true, true_and, true_or, or_true, false_or, or_false, not_true_eq_false, not_false_eq_true] <;> omega))
    | ((with_reducible apply gStep); · first | exact rfl))); rfl
    by_cases a8 : at' < 65536
    case neg => rw [show decide (okS k nd at' n s p keep) = false from decide_eq_false (by unfold okS; omega)]; ((repeat first
    | ((with_reducible refine aT ?_ ?_); · first | with_reducible rfl | with_reducible assumption | (simp only [Bool.and_eq_true, Bool.and_eq_false_iff, Bool.or_eq_true, Bool.true_and, Bool.and_true, decide_eq_true_eq, decide_eq_false_iff_not, Bool.not_eq_true', Bool.not_eq_false', beq_iff_eq, beq_eq_false_iff_ne, bne_iff_ne, bne_eq_false_iff_eq, ne_eq, fits_iff, whole_iff, List.length_append, List.length_map, List.length_cons, List.length_nil, List.length_take, List.length_drop, bRow_length, tRow_length, List.nil_append, Nat.zero_add, Nat.add_zero, Int.toNat_natCast, and_self, and_true, true_and, true_or, or_true, false_or, or_false, not_true_eq_false, not_false_eq_true] <;> omega))
    | ((with_reducible refine aF ?_ ?_); · first | with_reducible rfl | with_reducible assumption | (simp only [Bool.and_eq_true, Bool.and_eq_false_iff, Bool.or_eq_true, Bool.true_and, Bool.and_true, decide_eq_true_eq, decide_eq_false_iff_not, Bool.not_eq_true', Bool.not_eq_false', beq_iff_eq, beq_eq_false_iff_ne, bne_iff_ne, bne_eq_false_iff_eq, ne_eq, fits_iff, whole_iff, List.length_append, List.length_map, List.length_cons, List.length_nil, List.length_take, List.length_drop, bRow_length, tRow_length, List.nil_append, Nat.zero_add, Nat.add_zero, Int.toNat_natCast, and_self, and_true, true_and, true_or, or_true, false_or, or_false, not_true_eq_false, not_false_eq_true] <;> omega))
    | ((with_reducible apply gStep); · first | exact rfl))); rfl
    have wat : IntKind.wrap .u64 at' = at' := IntWalk.u64_in at' (by omega)
    simp only [wat]
    clear wat
    by_cases a9 : 0 ≤ n
    case neg => rw [show decide (okS k nd at' n s p keep) = false from decide_eq_false (by unfold okS; omega)]; ((repeat first
    | ((with_reducible refine aT ?_ ?_); · first | with_reducible rfl | with_reducible assumption | (simp only [Bool.and_eq_true, Bool.and_eq_false_iff, Bool.or_eq_true, Bool.true_and, Bool.and_true, decide_eq_true_eq, decide_eq_false_iff_not, Bool.not_eq_true', Bool.not_eq_false', beq_iff_eq, beq_eq_false_iff_ne, bne_iff_ne, bne_eq_false_iff_eq, ne_eq, fits_iff, whole_iff, List.length_append, List.length_map, List.length_cons, List.length_nil, List.length_take, List.length_drop, bRow_length, tRow_length, List.nil_append, Nat.zero_add, Nat.add_zero, Int.toNat_natCast, and_self, and_true, true_and, true_or, or_true, false_or, or_false, not_true_eq_false, not_false_eq_true] <;> omega))
    | ((with_reducible refine aF ?_ ?_); · first | with_reducible rfl | with_reducible assumption | (simp only [Bool.and_eq_true, Bool.and_eq_false_iff, Bool.or_eq_true, Bool.true_and, Bool.and_true, decide_eq_true_eq, decide_eq_false_iff_not, Bool.not_eq_true', Bool.not_eq_false', beq_iff_eq, beq_eq_false_iff_ne, bne_iff_ne, bne_eq_false_iff_eq, ne_eq, fits_iff, whole_iff, List.length_append, List.length_map, List.length_cons, List.length_nil, List.length_take, List.length_drop, bRow_length, tRow_length, List.nil_append, Nat.zero_add, Nat.add_zero, Int.toNat_natCast, and_self, and_true, true_and, true_or, or_true, false_or, or_false, not_true_eq_false, not_false_eq_true] <;> omega))
    | ((with_reducible apply gStep); · first | exact rfl))); rfl
    by_cases a10 : n < 65536
    case neg => rw [show decide (okS k nd at' n s p keep) = false from decide_eq_false (by unfold okS; omega)]; ((repeat first
    | ((with_reducible refine aT ?_ ?_); · first | with_reducible rfl | with_reducible assumption | (simp only [Bool.and_eq_true, Bool.and_eq_false_iff, Bool.or_eq_true, Bool.true_and, Bool.and_true, decide_eq_true_eq, decide_eq_false_iff_not, Bool.not_eq_true', Bool.not_eq_false', beq_iff_eq, beq_eq_false_iff_ne, bne_iff_ne, bne_eq_false_iff_eq, ne_eq, fits_iff, whole_iff, List.length_append, List.length_map, List.length_cons, List.length_nil, List.length_take, List.length_drop, bRow_length, tRow_length, List.nil_append, Nat.zero_add, Nat.add_zero, Int.toNat_natCast, and_self, and_true, true_and, true_or, or_true, false_or, or_false, not_true_eq_false, not_false_eq_true] <;> omega))
    | ((with_reducible refine aF ?_ ?_); · first | with_reducible rfl | with_reducible assumption | (simp only [Bool.and_eq_true, Bool.and_eq_false_iff, Bool.or_eq_true, Bool.true_and, Bool.and_true, decide_eq_true_eq, decide_eq_false_iff_not, Bool.not_eq_true', Bool.not_eq_false', beq_iff_eq, beq_eq_false_iff_ne, bne_iff_ne, bne_eq_false_iff_eq, ne_eq, fits_iff, whole_iff, List.length_append, List.length_map, List.length_cons, List.length_nil, List.length_take, List.length_drop, bRow_length, tRow_length, List.nil_append, Nat.zero_add, Nat.add_zero, Int.toNat_natCast, and_self, and_true, true_and, true_or, or_true, false_or, or_false, not_true_eq_false, not_false_eq_true] <;> omega))
    | ((with_reducible apply gStep); · first | exact rfl))); rfl
    have wn : IntKind.wrap .u64 n = n := IntWalk.u64_in n (by omega)
    simp only [wn]
    clear wn
    by_cases a11 : 0 ≤ p
    case neg => rw [show decide (okS k nd at' n s p keep) = false from decide_eq_false (by unfold okS; omega)]; ((repeat first
    | ((with_reducible refine aT ?_ ?_); · first | with_reducible rfl | with_reducible assumption | (simp only [Bool.and_eq_true, Bool.and_eq_false_iff, Bool.or_eq_true, Bool.true_and, Bool.and_true, decide_eq_true_eq, decide_eq_false_iff_not, Bool.not_eq_true', Bool.not_eq_false', beq_iff_eq, beq_eq_false_iff_ne, bne_iff_ne, bne_eq_false_iff_eq, ne_eq, fits_iff, whole_iff, List.length_append, List.length_map, List.length_cons, List.length_nil, List.length_take, List.length_drop, bRow_length, tRow_length, List.nil_append, Nat.zero_add, Nat.add_zero, Int.toNat_natCast, and_self, and_true, true_and, true_or, or_true, false_or, or_false, not_true_eq_false, not_false_eq_true] <;> omega))
    | ((with_reducible refine aF ?_ ?_); · first | with_reducible rfl | with_reducible assumption | (simp only [Bool.and_eq_true, Bool.and_eq_false_iff, Bool.or_eq_true, Bool.true_and, Bool.and_true, decide_eq_true_eq, decide_eq_false_iff_not, Bool.not_eq_true', Bool.not_eq_false', beq_iff_eq, beq_eq_false_iff_ne, bne_iff_ne, bne_eq_false_iff_eq, ne_eq, fits_iff, whole_iff, List.length_append, List.length_map, List.length_cons, List.length_nil, List.length_take, List.length_drop, bRow_length, tRow_length, List.nil_append, Nat.zero_add, Nat.add_zero, Int.toNat_natCast, and_self, and_true, true_and, true_or, or_true, false_or, or_false, not_true_eq_false, not_false_eq_true] <;> omega))
    | ((with_reducible apply gStep); · first | exact rfl))); rfl
    by_cases a12 : p < 65536
    case neg => rw [show decide (okS k nd at' n s p keep) = false from decide_eq_false (by unfold okS; omega)]; ((repeat first
    | ((with_reducible refine aT ?_ ?_); · first | with_reducible rfl | with_reducible assumption | (simp only [Bool.and_eq_true, Bool.and_eq_false_iff, Bool.or_eq_true, Bool.true_and, Bool.and_true, decide_eq_true_eq, decide_eq_false_iff_not, Bool.not_eq_true', Bool.not_eq_false', beq_iff_eq, beq_eq_false_iff_ne, bne_iff_ne, bne_eq_false_iff_eq, ne_eq, fits_iff, whole_iff, List.length_append, List.length_map, List.length_cons, List.length_nil, List.length_take, List.length_drop, bRow_length, tRow_length, List.nil_append, Nat.zero_add, Nat.add_zero, Int.toNat_natCast, and_self, and_true, true_and, true_or, or_true, false_or, or_false, not_true_eq_false, not_false_eq_true] <;> omega))
    | ((with_reducible refine aF ?_ ?_); · first | with_reducible rfl | with_reducible assumption | (simp only [Bool.and_eq_true, Bool.and_eq_false_iff, Bool.or_eq_true, Bool.true_and, Bool.and_true, decide_eq_true_eq, decide_eq_false_iff_not, Bool.not_eq_true', Bool.not_eq_false', beq_iff_eq, beq_eq_false_iff_ne, bne_iff_ne, bne_eq_false_iff_eq, ne_eq, fits_iff, whole_iff, List.length_append, List.length_map, List.length_cons, List.length_nil, List.length_take, List.length_drop, bRow_length, tRow_length, List.nil_append, Nat.zero_add, Nat.add_zero, Int.toNat_natCast, and_self, and_true, true_and, true_or, or_true, false_or, or_false, not_true_eq_false, not_false_eq_true] <;> omega))
    | ((with_reducible apply gStep); · first | exact rfl))); rfl
    have wp : IntKind.wrap .u64 p = p := IntWalk.u64_in p (by omega)
    simp only [wp]
    clear wp
    by_cases a1 : s.size = 0 ∨ s.size = 64
    case neg => rw [show decide (okS k nd at' n s p keep) = false from decide_eq_false (by unfold okS; omega)]; ((repeat first
    | ((with_reducible refine aT ?_ ?_); · first | with_reducible rfl | with_reducible assumption | (simp only [Bool.and_eq_true, Bool.and_eq_false_iff, Bool.or_eq_true, Bool.true_and, Bool.and_true, decide_eq_true_eq, decide_eq_false_iff_not, Bool.not_eq_true', Bool.not_eq_false', beq_iff_eq, beq_eq_false_iff_ne, bne_iff_ne, bne_eq_false_iff_eq, ne_eq, fits_iff, whole_iff, List.length_append, List.length_map, List.length_cons, List.length_nil, List.length_take, List.length_drop, bRow_length, tRow_length, List.nil_append, Nat.zero_add, Nat.add_zero, Int.toNat_natCast, and_self, and_true, true_and, true_or, or_true, false_or, or_false, not_true_eq_false, not_false_eq_true] <;> omega))
    | ((with_reducible refine aF ?_ ?_); · first | with_reducible rfl | with_reducible assumption | (simp only [Bool.and_eq_true, Bool.and_eq_false_iff, Bool.or_eq_true, Bool.true_and, Bool.and_true, decide_eq_true_eq, decide_eq_false_iff_not, Bool.not_eq_true', Bool.not_eq_false', beq_iff_eq, beq_eq_false_iff_ne, bne_iff_ne, bne_eq_false_iff_eq, ne_eq, fits_iff, whole_iff, List.length_append, List.length_map, List.length_cons, List.length_nil, List.length_take, List.length_drop, bRow_length, tRow_length, List.nil_append, Nat.zero_add, Nat.add_zero, Int.toNat_natCast, and_self, and_true, true_and, true_or, or_true, false_or, or_false, not_true_eq_false, not_false_eq_true] <;> omega))
    | ((with_reducible apply gStep); · first | exact rfl))); rfl
    by_cases a2 : keep.length ≤ 255
    case neg => rw [show decide (okS k nd at' n s p keep) = false from decide_eq_false (by unfold okS; omega)]; ((repeat first
    | ((with_reducible refine aT ?_ ?_); · first | with_reducible rfl | with_reducible assumption | (simp only [Bool.and_eq_true, Bool.and_eq_false_iff, Bool.or_eq_true, Bool.true_and, Bool.and_true, decide_eq_true_eq, decide_eq_false_iff_not, Bool.not_eq_true', Bool.not_eq_false', beq_iff_eq, beq_eq_false_iff_ne, bne_iff_ne, bne_eq_false_iff_eq, ne_eq, fits_iff, whole_iff, List.length_append, List.length_map, List.length_cons, List.length_nil, List.length_take, List.length_drop, bRow_length, tRow_length, List.nil_append, Nat.zero_add, Nat.add_zero, Int.toNat_natCast, and_self, and_true, true_and, true_or, or_true, false_or, or_false, not_true_eq_false, not_false_eq_true] <;> omega))
    | ((with_reducible refine aF ?_ ?_); · first | with_reducible rfl | with_reducible assumption | (simp only [Bool.and_eq_true, Bool.and_eq_false_iff, Bool.or_eq_true, Bool.true_and, Bool.and_true, decide_eq_true_eq, decide_eq_false_iff_not, Bool.not_eq_true', Bool.not_eq_false', beq_iff_eq, beq_eq_false_iff_ne, bne_iff_ne, bne_eq_false_iff_eq, ne_eq, fits_iff, whole_iff, List.length_append, List.length_map, List.length_cons, List.length_nil, List.length_take, List.length_drop, bRow_length, tRow_length, List.nil_append, Nat.zero_add, Nat.add_zero, Int.toNat_natCast, and_self, and_true, true_and, true_or, or_true, false_or, or_false, not_true_eq_false, not_false_eq_true] <;> omega))
    | ((with_reducible apply gStep); · first | exact rfl))); rfl
    have wl : IntKind.wrap .u64 ((keep.length : Nat) : Int) = (keep.length : Int) := IntWalk.u64_in _ (by omega)
    simp only [wl]
    clear wl
    rw [show decide (okS k nd at' n s p keep) = true from decide_eq_true (by unfold okS; omega)]
    have el := toList_len s
    have fb := fl_be s
    have hu := U40 (x := !decide (s.size = 0)) (G := G)
    rw [fb] at hu
    have eapp : ∀ l : List UInt8, (⟨l.toArray⟩ : ByteArray) ++ s = ⟨(l ++ s.data.toList).toArray⟩ := fun l => by
      rw [← ba_append, ba_data]
    ((repeat first
    | ((with_reducible refine aT ?_ ?_); · first | with_reducible rfl | with_reducible assumption | (simp only [Bool.and_eq_true, Bool.and_eq_false_iff, Bool.or_eq_true, Bool.true_and, Bool.and_true, decide_eq_true_eq, decide_eq_false_iff_not, Bool.not_eq_true', Bool.not_eq_false', beq_iff_eq, beq_eq_false_iff_ne, bne_iff_ne, bne_eq_false_iff_eq, ne_eq, fits_iff, whole_iff, List.length_append, List.length_map, List.length_cons, List.length_nil, List.length_take, List.length_drop, bRow_length, tRow_length, List.nil_append, Nat.zero_add, Nat.add_zero, Int.toNat_natCast, and_self, and_true, true_and, true_or, or_true, false_or, or_false, not_true_eq_false, not_false_eq_true, ba_append, eapp, ba_size, be1_len, be2_len] <;> omega))
    | ((with_reducible refine aF ?_ ?_); · first | with_reducible rfl | with_reducible assumption | (simp only [Bool.and_eq_true, Bool.and_eq_false_iff, Bool.or_eq_true, Bool.true_and, Bool.and_true, decide_eq_true_eq, decide_eq_false_iff_not, Bool.not_eq_true', Bool.not_eq_false', beq_iff_eq, beq_eq_false_iff_ne, bne_iff_ne, bne_eq_false_iff_eq, ne_eq, fits_iff, whole_iff, List.length_append, List.length_map, List.length_cons, List.length_nil, List.length_take, List.length_drop, bRow_length, tRow_length, List.nil_append, Nat.zero_add, Nat.add_zero, Int.toNat_natCast, and_self, and_true, true_and, true_or, or_true, false_or, or_false, not_true_eq_false, not_false_eq_true, ba_append, eapp, ba_size, be1_len, be2_len] <;> omega))
    | ((with_reducible apply gStep); · first | exact rfl | exact c39_1 (by omega) | exact c39_2 (by omega) | exact hu | (simp only [ba_append, eapp]; exact loS_eq out20_inj (loop20 (by simp only [List.length_append, be1_len, be2_len]; omega) (by omega))))))
    simp only [res20, putB, z, if_true, List.append_assoc]
    try rw [if_neg (show ¬ s.size = 0 by omega)]

theorem f41_run {k1 k2 : LK} {a b : List Bool} {G : List Ent} (hm : a.length ≤ maxLen) : (f41t k1 (tRow a) k2 (tRow b) G).run = some (.dat (.bool (decide (a = b))), G) := by
  rw [← Tr.ev_run, f41t_eq]
  by_cases hl : a.length = b.length
  · ((repeat first
    | ((with_reducible refine aT ?_ ?_); · first | with_reducible rfl | with_reducible assumption | (simp only [Bool.and_eq_true, Bool.and_eq_false_iff, Bool.or_eq_true, Bool.true_and, Bool.and_true, decide_eq_true_eq, decide_eq_false_iff_not, Bool.not_eq_true', Bool.not_eq_false', beq_iff_eq, beq_eq_false_iff_ne, bne_iff_ne, bne_eq_false_iff_eq, ne_eq, fits_iff, whole_iff, List.length_append, List.length_map, List.length_cons, List.length_nil, List.length_take, List.length_drop, bRow_length, tRow_length, List.nil_append, Nat.zero_add, Nat.add_zero, Int.toNat_natCast, and_self, and_true, true_and, true_or, or_true, false_or, or_false, not_true_eq_false, not_false_eq_true] <;> omega))
    | ((with_reducible refine aF ?_ ?_); · first | with_reducible rfl | with_reducible assumption | (simp only [Bool.and_eq_true, Bool.and_eq_false_iff, Bool.or_eq_true, Bool.true_and, Bool.and_true, decide_eq_true_eq, decide_eq_false_iff_not, Bool.not_eq_true', Bool.not_eq_false', beq_iff_eq, beq_eq_false_iff_ne, bne_iff_ne, bne_eq_false_iff_eq, ne_eq, fits_iff, whole_iff, List.length_append, List.length_map, List.length_cons, List.length_nil, List.length_take, List.length_drop, bRow_length, tRow_length, List.nil_append, Nat.zero_add, Nat.add_zero, Int.toNat_natCast, and_self, and_true, true_and, true_or, or_true, false_or, or_false, not_true_eq_false, not_false_eq_true] <;> omega))
    | ((with_reducible apply gStep); · first | exact rfl | (rw [tRow_length]; exact loS_eq outB_inj (loop41 hl hm)))))
    by_cases h : a = b
    · rw [decide_eq_true h]; rfl
    · rw [decide_eq_false h]; rfl
  · ((repeat first
    | ((with_reducible refine aT ?_ ?_); · first | with_reducible rfl | with_reducible assumption | (simp only [Bool.and_eq_true, Bool.and_eq_false_iff, Bool.or_eq_true, Bool.true_and, Bool.and_true, decide_eq_true_eq, decide_eq_false_iff_not, Bool.not_eq_true', Bool.not_eq_false', beq_iff_eq, beq_eq_false_iff_ne, bne_iff_ne, bne_eq_false_iff_eq, ne_eq, fits_iff, whole_iff, List.length_append, List.length_map, List.length_cons, List.length_nil, List.length_take, List.length_drop, bRow_length, tRow_length, List.nil_append, Nat.zero_add, Nat.add_zero, Int.toNat_natCast, and_self, and_true, true_and, true_or, or_true, false_or, or_false, not_true_eq_false, not_false_eq_true] <;> omega))
    | ((with_reducible refine aF ?_ ?_); · first | with_reducible rfl | with_reducible assumption | (simp only [Bool.and_eq_true, Bool.and_eq_false_iff, Bool.or_eq_true, Bool.true_and, Bool.and_true, decide_eq_true_eq, decide_eq_false_iff_not, Bool.not_eq_true', Bool.not_eq_false', beq_iff_eq, beq_eq_false_iff_ne, bne_iff_ne, bne_eq_false_iff_eq, ne_eq, fits_iff, whole_iff, List.length_append, List.length_map, List.length_cons, List.length_nil, List.length_take, List.length_drop, bRow_length, tRow_length, List.nil_append, Nat.zero_add, Nat.add_zero, Int.toNat_natCast, and_self, and_true, true_and, true_or, or_true, false_or, or_false, not_true_eq_false, not_false_eq_true] <;> omega))
    | ((with_reducible apply gStep); · first | exact rfl)))
    rw [decide_eq_false (fun h => hl (by rw [h]))]

/-- are two steps alike? -/
def sameS (k nd at' n : Int) (s : ByteArray) (p : Int) (a : List Bool) (k' nd' at'' n' : Int) (s' : ByteArray) (p' : Int) (b : List Bool) : Bool :=
  decide (k = k' ∧ nd = nd' ∧ at' = at'' ∧ n = n' ∧ s.toList = s'.toList ∧ p = p' ∧ a = b)

theorem f22_run {sz : Nat} {k nd at' n : Int} {s : ByteArray} {p : Int} {kk : LK} {a : List Bool} {k' nd' at'' n' : Int} {s' : ByteArray} {p' : Int} {kk' : LK} {b : List Bool} {G : List Ent} (hm : a.length ≤ maxLen) (hz : a ≠ [] → sz = 1) :
    (f22t sz k nd at' n s p kk (tRow a) k' nd' at'' n' s' p' kk' (tRow b) G).run = some (.dat (.bool (sameS k nd at' n s p a k' nd' at'' n' s' p' b)), G) := by
  rw [← Tr.ev_run, f22t_eq]
  unfold sameS
  by_cases e1 : k = k'
  case neg => rw [decide_eq_false (fun h => e1 h.1)]; ((repeat first
    | ((with_reducible refine aT ?_ ?_); · first | with_reducible rfl | with_reducible assumption | (simp only [Bool.and_eq_true, Bool.and_eq_false_iff, Bool.or_eq_true, Bool.true_and, Bool.and_true, decide_eq_true_eq, decide_eq_false_iff_not, Bool.not_eq_true', Bool.not_eq_false', beq_iff_eq, beq_eq_false_iff_ne, bne_iff_ne, bne_eq_false_iff_eq, ne_eq, fits_iff, whole_iff, List.length_append, List.length_map, List.length_cons, List.length_nil, List.length_take, List.length_drop, bRow_length, tRow_length, List.nil_append, Nat.zero_add, Nat.add_zero, Int.toNat_natCast, and_self, and_true, true_and, true_or, or_true, false_or, or_false, not_true_eq_false, not_false_eq_true] <;> omega))
    | ((with_reducible refine aF ?_ ?_); · first | with_reducible rfl | with_reducible assumption | (simp only [Bool.and_eq_true, Bool.and_eq_false_iff, Bool.or_eq_true, Bool.true_and, Bool.and_true, decide_eq_true_eq, decide_eq_false_iff_not, Bool.not_eq_true', Bool.not_eq_false', beq_iff_eq, beq_eq_false_iff_ne, bne_iff_ne, bne_eq_false_iff_eq, ne_eq, fits_iff, whole_iff, List.length_append, List.length_map, List.length_cons, List.length_nil, List.length_take, List.length_drop, bRow_length, tRow_length, List.nil_append, Nat.zero_add, Nat.add_zero, Int.toNat_natCast, and_self, and_true, true_and, true_or, or_true, false_or, or_false, not_true_eq_false, not_false_eq_true] <;> omega))
    | ((with_reducible apply gStep); · first | exact rfl))); rfl
  by_cases e2 : nd = nd'
  case neg => rw [decide_eq_false (fun h => e2 h.2.1)]; ((repeat first
    | ((with_reducible refine aT ?_ ?_); · first | with_reducible rfl | with_reducible assumption | (simp only [Bool.and_eq_true, Bool.and_eq_false_iff, Bool.or_eq_true, Bool.true_and, Bool.and_true, decide_eq_true_eq, decide_eq_false_iff_not, Bool.not_eq_true', Bool.not_eq_false', beq_iff_eq, beq_eq_false_iff_ne, bne_iff_ne, bne_eq_false_iff_eq, ne_eq, fits_iff, whole_iff, List.length_append, List.length_map, List.length_cons, List.length_nil, List.length_take, List.length_drop, bRow_length, tRow_length, List.nil_append, Nat.zero_add, Nat.add_zero, Int.toNat_natCast, and_self, and_true, true_and, true_or, or_true, false_or, or_false, not_true_eq_false, not_false_eq_true] <;> omega))
    | ((with_reducible refine aF ?_ ?_); · first | with_reducible rfl | with_reducible assumption | (simp only [Bool.and_eq_true, Bool.and_eq_false_iff, Bool.or_eq_true, Bool.true_and, Bool.and_true, decide_eq_true_eq, decide_eq_false_iff_not, Bool.not_eq_true', Bool.not_eq_false', beq_iff_eq, beq_eq_false_iff_ne, bne_iff_ne, bne_eq_false_iff_eq, ne_eq, fits_iff, whole_iff, List.length_append, List.length_map, List.length_cons, List.length_nil, List.length_take, List.length_drop, bRow_length, tRow_length, List.nil_append, Nat.zero_add, Nat.add_zero, Int.toNat_natCast, and_self, and_true, true_and, true_or, or_true, false_or, or_false, not_true_eq_false, not_false_eq_true] <;> omega))
    | ((with_reducible apply gStep); · first | exact rfl))); rfl
  by_cases e3 : at' = at''
  case neg => rw [decide_eq_false (fun h => e3 h.2.2.1)]; ((repeat first
    | ((with_reducible refine aT ?_ ?_); · first | with_reducible rfl | with_reducible assumption | (simp only [Bool.and_eq_true, Bool.and_eq_false_iff, Bool.or_eq_true, Bool.true_and, Bool.and_true, decide_eq_true_eq, decide_eq_false_iff_not, Bool.not_eq_true', Bool.not_eq_false', beq_iff_eq, beq_eq_false_iff_ne, bne_iff_ne, bne_eq_false_iff_eq, ne_eq, fits_iff, whole_iff, List.length_append, List.length_map, List.length_cons, List.length_nil, List.length_take, List.length_drop, bRow_length, tRow_length, List.nil_append, Nat.zero_add, Nat.add_zero, Int.toNat_natCast, and_self, and_true, true_and, true_or, or_true, false_or, or_false, not_true_eq_false, not_false_eq_true] <;> omega))
    | ((with_reducible refine aF ?_ ?_); · first | with_reducible rfl | with_reducible assumption | (simp only [Bool.and_eq_true, Bool.and_eq_false_iff, Bool.or_eq_true, Bool.true_and, Bool.and_true, decide_eq_true_eq, decide_eq_false_iff_not, Bool.not_eq_true', Bool.not_eq_false', beq_iff_eq, beq_eq_false_iff_ne, bne_iff_ne, bne_eq_false_iff_eq, ne_eq, fits_iff, whole_iff, List.length_append, List.length_map, List.length_cons, List.length_nil, List.length_take, List.length_drop, bRow_length, tRow_length, List.nil_append, Nat.zero_add, Nat.add_zero, Int.toNat_natCast, and_self, and_true, true_and, true_or, or_true, false_or, or_false, not_true_eq_false, not_false_eq_true] <;> omega))
    | ((with_reducible apply gStep); · first | exact rfl))); rfl
  by_cases e4 : n = n'
  case neg => rw [decide_eq_false (fun h => e4 h.2.2.2.1)]; ((repeat first
    | ((with_reducible refine aT ?_ ?_); · first | with_reducible rfl | with_reducible assumption | (simp only [Bool.and_eq_true, Bool.and_eq_false_iff, Bool.or_eq_true, Bool.true_and, Bool.and_true, decide_eq_true_eq, decide_eq_false_iff_not, Bool.not_eq_true', Bool.not_eq_false', beq_iff_eq, beq_eq_false_iff_ne, bne_iff_ne, bne_eq_false_iff_eq, ne_eq, fits_iff, whole_iff, List.length_append, List.length_map, List.length_cons, List.length_nil, List.length_take, List.length_drop, bRow_length, tRow_length, List.nil_append, Nat.zero_add, Nat.add_zero, Int.toNat_natCast, and_self, and_true, true_and, true_or, or_true, false_or, or_false, not_true_eq_false, not_false_eq_true] <;> omega))
    | ((with_reducible refine aF ?_ ?_); · first | with_reducible rfl | with_reducible assumption | (simp only [Bool.and_eq_true, Bool.and_eq_false_iff, Bool.or_eq_true, Bool.true_and, Bool.and_true, decide_eq_true_eq, decide_eq_false_iff_not, Bool.not_eq_true', Bool.not_eq_false', beq_iff_eq, beq_eq_false_iff_ne, bne_iff_ne, bne_eq_false_iff_eq, ne_eq, fits_iff, whole_iff, List.length_append, List.length_map, List.length_cons, List.length_nil, List.length_take, List.length_drop, bRow_length, tRow_length, List.nil_append, Nat.zero_add, Nat.add_zero, Int.toNat_natCast, and_self, and_true, true_and, true_or, or_true, false_or, or_false, not_true_eq_false, not_false_eq_true] <;> omega))
    | ((with_reducible apply gStep); · first | exact rfl))); rfl
  by_cases e5 : s.toList = s'.toList
  case neg => rw [decide_eq_false (fun h => e5 h.2.2.2.2.1)]; ((repeat first
    | ((with_reducible refine aT ?_ ?_); · first | with_reducible rfl | with_reducible assumption | (simp only [Bool.and_eq_true, Bool.and_eq_false_iff, Bool.or_eq_true, Bool.true_and, Bool.and_true, decide_eq_true_eq, decide_eq_false_iff_not, Bool.not_eq_true', Bool.not_eq_false', beq_iff_eq, beq_eq_false_iff_ne, bne_iff_ne, bne_eq_false_iff_eq, ne_eq, fits_iff, whole_iff, List.length_append, List.length_map, List.length_cons, List.length_nil, List.length_take, List.length_drop, bRow_length, tRow_length, List.nil_append, Nat.zero_add, Nat.add_zero, Int.toNat_natCast, and_self, and_true, true_and, true_or, or_true, false_or, or_false, not_true_eq_false, not_false_eq_true, e5] <;> omega))
    | ((with_reducible refine aF ?_ ?_); · first | with_reducible rfl | with_reducible assumption | (simp only [Bool.and_eq_true, Bool.and_eq_false_iff, Bool.or_eq_true, Bool.true_and, Bool.and_true, decide_eq_true_eq, decide_eq_false_iff_not, Bool.not_eq_true', Bool.not_eq_false', beq_iff_eq, beq_eq_false_iff_ne, bne_iff_ne, bne_eq_false_iff_eq, ne_eq, fits_iff, whole_iff, List.length_append, List.length_map, List.length_cons, List.length_nil, List.length_take, List.length_drop, bRow_length, tRow_length, List.nil_append, Nat.zero_add, Nat.add_zero, Int.toNat_natCast, and_self, and_true, true_and, true_or, or_true, false_or, or_false, not_true_eq_false, not_false_eq_true, e5] <;> omega))
    | ((with_reducible apply gStep); · first | exact rfl))); rfl
  by_cases e6 : p = p'
  case neg => rw [decide_eq_false (fun h => e6 h.2.2.2.2.2.1)]; ((repeat first
    | ((with_reducible refine aT ?_ ?_); · first | with_reducible rfl | with_reducible assumption | (simp only [Bool.and_eq_true, Bool.and_eq_false_iff, Bool.or_eq_true, Bool.true_and, Bool.and_true, decide_eq_true_eq, decide_eq_false_iff_not, Bool.not_eq_true', Bool.not_eq_false', beq_iff_eq, beq_eq_false_iff_ne, bne_iff_ne, bne_eq_false_iff_eq, ne_eq, fits_iff, whole_iff, List.length_append, List.length_map, List.length_cons, List.length_nil, List.length_take, List.length_drop, bRow_length, tRow_length, List.nil_append, Nat.zero_add, Nat.add_zero, Int.toNat_natCast, and_self, and_true, true_and, true_or, or_true, false_or, or_false, not_true_eq_false, not_false_eq_true, e5] <;> omega))
    | ((with_reducible refine aF ?_ ?_); · first | with_reducible rfl | with_reducible assumption | (simp only [Bool.and_eq_true, Bool.and_eq_false_iff, Bool.or_eq_true, Bool.true_and, Bool.and_true, decide_eq_true_eq, decide_eq_false_iff_not, Bool.not_eq_true', Bool.not_eq_false', beq_iff_eq, beq_eq_false_iff_ne, bne_iff_ne, bne_eq_false_iff_eq, ne_eq, fits_iff, whole_iff, List.length_append, List.length_map, List.length_cons, List.length_nil, List.length_take, List.length_drop, bRow_length, tRow_length, List.nil_append, Nat.zero_add, Nat.add_zero, Int.toNat_natCast, and_self, and_true, true_and, true_or, or_true, false_or, or_false, not_true_eq_false, not_false_eq_true, e5] <;> omega))
    | ((with_reducible apply gStep); · first | exact rfl))); rfl
  by_cases hl : a.length = b.length
  case neg => rw [decide_eq_false (fun h => hl (by rw [h.2.2.2.2.2.2]))]; ((repeat first
    | ((with_reducible refine aT ?_ ?_); · first | with_reducible rfl | with_reducible assumption | (simp only [Bool.and_eq_true, Bool.and_eq_false_iff, Bool.or_eq_true, Bool.true_and, Bool.and_true, decide_eq_true_eq, decide_eq_false_iff_not, Bool.not_eq_true', Bool.not_eq_false', beq_iff_eq, beq_eq_false_iff_ne, bne_iff_ne, bne_eq_false_iff_eq, ne_eq, fits_iff, whole_iff, List.length_append, List.length_map, List.length_cons, List.length_nil, List.length_take, List.length_drop, bRow_length, tRow_length, List.nil_append, Nat.zero_add, Nat.add_zero, Int.toNat_natCast, and_self, and_true, true_and, true_or, or_true, false_or, or_false, not_true_eq_false, not_false_eq_true, e5] <;> omega))
    | ((with_reducible refine aF ?_ ?_); · first | with_reducible rfl | with_reducible assumption | (simp only [Bool.and_eq_true, Bool.and_eq_false_iff, Bool.or_eq_true, Bool.true_and, Bool.and_true, decide_eq_true_eq, decide_eq_false_iff_not, Bool.not_eq_true', Bool.not_eq_false', beq_iff_eq, beq_eq_false_iff_ne, bne_iff_ne, bne_eq_false_iff_eq, ne_eq, fits_iff, whole_iff, List.length_append, List.length_map, List.length_cons, List.length_nil, List.length_take, List.length_drop, bRow_length, tRow_length, List.nil_append, Nat.zero_add, Nat.add_zero, Int.toNat_natCast, and_self, and_true, true_and, true_or, or_true, false_or, or_false, not_true_eq_false, not_false_eq_true, e5] <;> omega))
    | ((with_reducible apply gStep); · first | exact rfl))); rfl
  ((repeat first
    | ((with_reducible refine aT ?_ ?_); · first | with_reducible rfl | with_reducible assumption | (simp only [Bool.and_eq_true, Bool.and_eq_false_iff, Bool.or_eq_true, Bool.true_and, Bool.and_true, decide_eq_true_eq, decide_eq_false_iff_not, Bool.not_eq_true', Bool.not_eq_false', beq_iff_eq, beq_eq_false_iff_ne, bne_iff_ne, bne_eq_false_iff_eq, ne_eq, fits_iff, whole_iff, List.length_append, List.length_map, List.length_cons, List.length_nil, List.length_take, List.length_drop, bRow_length, tRow_length, List.nil_append, Nat.zero_add, Nat.add_zero, Int.toNat_natCast, and_self, and_true, true_and, true_or, or_true, false_or, or_false, not_true_eq_false, not_false_eq_true, e5] <;> omega))
    | ((with_reducible refine aF ?_ ?_); · first | with_reducible rfl | with_reducible assumption | (simp only [Bool.and_eq_true, Bool.and_eq_false_iff, Bool.or_eq_true, Bool.true_and, Bool.and_true, decide_eq_true_eq, decide_eq_false_iff_not, Bool.not_eq_true', Bool.not_eq_false', beq_iff_eq, beq_eq_false_iff_ne, bne_iff_ne, bne_eq_false_iff_eq, ne_eq, fits_iff, whole_iff, List.length_append, List.length_map, List.length_cons, List.length_nil, List.length_take, List.length_drop, bRow_length, tRow_length, List.nil_append, Nat.zero_add, Nat.add_zero, Int.toNat_natCast, and_self, and_true, true_and, true_or, or_true, false_or, or_false, not_true_eq_false, not_false_eq_true, e5] <;> omega))
    | ((with_reducible apply gStep); · first | exact rfl | exact loS_eq out22_inj (loop22 hl hm hz))))
  by_cases h : a = b
  · rw [decide_eq_true h, decide_eq_true ⟨e1, e2, e3, e4, e5, e6, h⟩]; rfl
  · rw [decide_eq_false h, decide_eq_false (fun q => h q.2.2.2.2.2.2)]; rfl

theorem f21_run {k nd at' n : Int} {s : ByteArray} {p : Int} {kk : LK} {a : List Bool} {k' nd' at'' n' : Int} {s' : ByteArray} {p' : Int} {kk' : LK} {b : List Bool} {G : List Ent} (hm : a.length ≤ maxLen) :
    (f21t k nd at' n s p kk (tRow a) k' nd' at'' n' s' p' kk' (tRow b) G).run = some (.dat (.bool (sameS k nd at' n s p a k' nd' at'' n' s' p' b)), G) := by
  rw [← Tr.ev_run, f21t_eq]
  unfold sameS
  have hr : R41 [.dat (.list kk 1 (tRow a)), .dat (.list kk' 1 (tRow b))] G = some ((fun b : Bool => (AV.dat (.bool b), G)) (decide (a = b))) := f41_run hm
  have hf := fnS_eq (out := fun b : Bool => (AV.dat (.bool b), G)) (by intro x y h; simpa using h) hr
  clear hr
  simp only [Bool.true_and, Bool.and_true]
  by_cases c : (k == k' && (nd == nd' && (at' == at'' && (n == n' && p == p')))) = true
  · rw [c]
    simp only [Bool.and_eq_true, beq_iff_eq] at c
    by_cases e5 : s.toList = s'.toList
    · refine aT rfl (aT (by simpa using e5) (gStep hf ?_))
      rw [show decide (a = b) = decide (k = k' ∧ nd = nd' ∧ at' = at'' ∧ n = n' ∧ s.toList = s'.toList ∧ p = p' ∧ a = b) from ?_]
      rw [decide_eq_decide]
      exact ⟨fun h => ⟨c.1, c.2.1, c.2.2.1, c.2.2.2.1, e5, c.2.2.2.2, h⟩, fun h => h.2.2.2.2.2.2⟩
    · refine aT rfl (aF (by simpa using e5) ?_)
      rw [decide_eq_false (fun h => e5 h.2.2.2.2.1)]
  · rw [Bool.not_eq_true] at c
    rw [c]
    rw [decide_eq_false (fun h => ?_)]
    · rfl
    · obtain ⟨h1, h2, h3, h4, _, h5, _⟩ := h
      simp [h1, h2, h3, h4, h5] at c

end Go.Eng
end
