/- What is kept, as a word: words.Keep, walked over the shelf's contracts of strings.Builder. -/
import Derived.Test.YtkbbgehnooncoaaGreatDoorWp14
import Derived.WalkKit
import Derived.BigCall
section
namespace Go.Proofs
open Go.RowKit

def Tryz.keepB (l : List Bool) : List UInt8 := l.map fun b => if b then 49 else 48
theorem Tryz.keepB_snoc (l : List Bool) (k : Nat) (b : Bool) (h : l[k]? = some b) : Tryz.keepB (l.take (k + 1)) = Tryz.keepB (l.take k) ++ [if b then 49 else 48] := by
  rw [List.take_add_one, h]
  simp [Tryz.keepB]
theorem Tryz.keepB_len (l : List Bool) : (Tryz.keepB l).length = l.length := by simp [Tryz.keepB]
set_option maxHeartbeats 4000000 in
set_option maxRecDepth 1000000 in
theorem Tryz.keep_walk (bk o c : Nat) (l : List Bool) (w : World) (hl : l ≠ []) (hlen : l.length ≤ 1000000) (hcells : ∀ (j : Nat) b, l[j]? = some b → w.cell? ⟨bk, o + j, none⟩ = some (.bool b)) (hbk : bk < w.heap.size) :
    Calls Tryz.prog 12 #[.slice (some ⟨bk, o, none⟩) l.length c] w fun e w' => e = .returned (.string ⟨(Tryz.keepB l).toArray⟩) ∧ Below w.heap.size w w' := by
  have h0 : ¬ (l.length : Int) = 0 := by
    have := List.length_pos_iff.2 hl
    omega
  have hz : ((l.length : Int) == 0) = false := by simpa using h0
  go_enter Tryz.func12, Tryz.ntmps12
  go_wp2
  go_loopw [12] (fun vi wr => ∃ k : Nat, k ≤ l.length ∧ vi = .int .i64 k ∧ Lib.IsBuilder 53 5 w.heap.size w.heap.size (Lib.byteCells (Tryz.keepB (l.take k))) wr ∧ Below w.heap.size w wr) (fun vi _ => l.length - (intOf vi).toNat)
  case atStart => exact ⟨0, by omega, rfl, Lib.fresh_isBuilder 53 5 w, (Below.refl _ w).alloc (Nat.le_refl _) _⟩
  case round =>
    obtain ⟨k, hk, rfl, hI, hB⟩ := hrel
    have hsz : w.heap.size ≤ wr.heap.size := hB.size
    have hln : (Lib.byteCells (Tryz.keepB (l.take k))).length + 1 ≤ 140737488355328 := by
      rw [Lib.byteCells_length, Tryz.keepB_len, List.length_take]; omega
    by_cases hlt : k < l.length
    · have hi : (k : Int) < (l.length : Int) := by omega
      have hg : l[k]? = some l[k] := List.getElem?_eq_getElem hlt
      have hc : wr.cell? ⟨bk, o + k, none⟩ = some (.bool l[k]) := by
        have := hcells k l[k] hg
        simpa only [World.cell?, hB.block bk hbk] using this
      have hs := Tryz.keepB_snoc l k l[k] hg
      cases hb : l[k] with
      | true =>
        rw [hb] at hc hs
        simp only [if_true] at hs
        go_wp2_with (go_at_call 30; refine (Tryz.Builder_WriteByte w.heap.size w.heap.size _ 49 _ hI hln hsz).mono ?_)
        rintro e W1 ⟨rfl, h1, b1⟩
        go_wp2
        go_roundw
        case rel =>
          refine ⟨k + 1, by omega, by simp, ?_, hB.trans b1⟩
          rw [hs, Lib.byteCells_append]
          exact Or.inr h1
        case measure =>
          simp only [intOf]
          omega
      | false =>
        rw [hb] at hc hs
        simp only [Bool.false_eq_true, if_false] at hs
        go_wp2_with (go_at_call 30; refine (Tryz.Builder_WriteByte w.heap.size w.heap.size _ 48 _ hI hln hsz).mono ?_)
        rintro e W1 ⟨rfl, h1, b1⟩
        go_wp2
        go_roundw
        case rel =>
          refine ⟨k + 1, by omega, by simp, ?_, hB.trans b1⟩
          rw [hs, Lib.byteCells_append]
          exact Or.inr h1
        case measure =>
          simp only [intOf]
          omega
    · have hi : ¬ (k : Int) < (l.length : Int) := by omega
      have hkl : l.take k = l := List.take_of_length_le (by omega)
      rw [hkl] at hI
      go_wp2_with (go_at_call 31; refine (Tryz.Builder_String_any w.heap.size w.heap.size (Tryz.keepB l) _ hI hsz).mono ?_)
      rintro e W1 rfl b1
      go_wp2
      go_ret
      exact ⟨rfl, hB.trans b1⟩
theorem Tryz.keep_none (p : Option Addr) (c : Nat) (w : World) :
    Calls Tryz.prog 12 #[.slice p 0 c] w fun e w' => e = .returned (.string ⟨#[45]⟩) ∧ w' = w := by
  go_enter Tryz.func12, Tryz.ntmps12
  go_wp2
  go_ret
  exact ⟨rfl, rfl⟩
end Go.Proofs
end
