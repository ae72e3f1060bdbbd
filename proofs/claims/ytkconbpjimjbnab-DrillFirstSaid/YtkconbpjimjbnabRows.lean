/-
  No cell of these rows narrows 'for every input' (looked for: loops, veiled, ifaces, maps, wideKeys, modest, calm, conditions, laid).
  DERIVED. THE GIVEN ROWS OF THIS SEAT. 5 by the template 'for every input the law returns true; each argument reads behind the call as it read before'; 0 by the template 'total and deterministic' (their statements: YtkconbpjimjbnabTotals.lean).
  GIVEN WITH THE SEED: the statements are not yours to turn. If you find one false, say at which input.
  Laid BY PROGRAM, IN A SANDBOX (cutbox-rows.mjs): the forced cells as the released guide's own fill.sh prints them over the translation 497e5e6c53856e4c… (all of the seat's roots in one cut). By AI agents, Wed Nov 11 2026. No macro, syntax, notation, axiom, sorry.
-/
import Derived.Test.YtkconbpjimjbnabChecked
import GoSem.Claim
import GoSem.ClaimJoined
import GoSem.ClaimMapViews
import Derived.JoinedTies
import Derived.KernelRfl
namespace Go.Proofs.Ytkconbpjimjbnab
/- THE CELL 'sum', in the pinned program and in every row, IS THE sha256 OF THE DUMP (.gsa) THAT YtkconbpjimjbnabProg.lean LOADS. Nothing in Lean hashes anything: it is a label: what it is worth is what the hold of that sum in a sandbox is worth. -/
noncomputable def Try.pinned : Pinned := { name := "ytkconbpjimjbnab", sum := "497e5e6c53856e4c5025d40f176d25a2f5047a31733e68b9f2200bd87eb65e75", checked := Try.checked }
namespace Rows
def none {H : Type} : Left H := { results := [], args := [] }

/-- 'pentimentolaw39.DrillRolls': WHATEVER THE INPUT: true; the input reads as it did. -/
def drillRollsSpec : ChangeSpec := { name := "drillRolls", fn := fun _ => fun
  | [d1, d2] => { results := [.lit (.bool true)], args := [d1, d2] }
  | _ => none }
def drillRollsRow : OpenClaim := { program := "ytkconbpjimjbnab", sum := "497e5e6c53856e4c5025d40f176d25a2f5047a31733e68b9f2200bd87eb65e75", func := "pentimento/pentimentolaw39.DrillRolls", spec := "drillRolls", inPlace := ["internal/abi.NoEscape", "internal/bytealg.MakeNoZero"], unfollowed := true, recurses := true, apart := false }
def DrillRollsSaid : Prop := drillRollsRow.holds Try.pinned (OpenSpec.ofChange drillRollsSpec)

/-- ITS FALSE NEIGHBOUR: 'it returns false'. Refute it at one input. -/
def drillRollsWrong : ChangeSpec := { name := "drillRolls", fn := fun _ => fun
  | [d1, d2] => { results := [.lit (.bool false)], args := [d1, d2] }
  | _ => none }
def DrillRollsWrongFalsely : Prop := drillRollsRow.holds Try.pinned (OpenSpec.ofChange drillRollsWrong)

/-- 'pentimentolaw39.DrillSteps': WHATEVER THE INPUT: true; the input reads as it did. -/
def drillStepsSpec : ChangeSpec := { name := "drillSteps", fn := fun _ => fun
  | [d1, d2] => { results := [.lit (.bool true)], args := [d1, d2] }
  | _ => none }
def drillStepsRow : OpenClaim := { program := "ytkconbpjimjbnab", sum := "497e5e6c53856e4c5025d40f176d25a2f5047a31733e68b9f2200bd87eb65e75", func := "pentimento/pentimentolaw39.DrillSteps", spec := "drillSteps", inPlace := ["internal/abi.NoEscape", "internal/bytealg.MakeNoZero"], unfollowed := true, recurses := true, apart := false }
def DrillStepsSaid : Prop := drillStepsRow.holds Try.pinned (OpenSpec.ofChange drillStepsSpec)

/-- ITS FALSE NEIGHBOUR: 'it returns false'. Refute it at one input. -/
def drillStepsWrong : ChangeSpec := { name := "drillSteps", fn := fun _ => fun
  | [d1, d2] => { results := [.lit (.bool false)], args := [d1, d2] }
  | _ => none }
def DrillStepsWrongFalsely : Prop := drillStepsRow.holds Try.pinned (OpenSpec.ofChange drillStepsWrong)

/-- 'pentimentolaw39.DrillFirst': WHATEVER THE INPUT: true; the input reads as it did. -/
def drillFirstSpec : ChangeSpec := { name := "drillFirst", fn := fun _ => fun
  | [d1, d2, d3] => { results := [.lit (.bool true)], args := [d1, d2, d3] }
  | _ => none }
def drillFirstRow : OpenClaim := { program := "ytkconbpjimjbnab", sum := "497e5e6c53856e4c5025d40f176d25a2f5047a31733e68b9f2200bd87eb65e75", func := "pentimento/pentimentolaw39.DrillFirst", spec := "drillFirst", inPlace := ["internal/abi.NoEscape", "internal/bytealg.MakeNoZero"], unfollowed := true, recurses := true, apart := false }
def DrillFirstSaid : Prop := drillFirstRow.holds Try.pinned (OpenSpec.ofChange drillFirstSpec)

/-- ITS FALSE NEIGHBOUR: 'it returns false'. Refute it at one input. -/
def drillFirstWrong : ChangeSpec := { name := "drillFirst", fn := fun _ => fun
  | [d1, d2, d3] => { results := [.lit (.bool false)], args := [d1, d2, d3] }
  | _ => none }
def DrillFirstWrongFalsely : Prop := drillFirstRow.holds Try.pinned (OpenSpec.ofChange drillFirstWrong)

/-- 'pentimentolaw39.DrillNil': WHATEVER THE INPUT: true; the input reads as it did. -/
def drillNilSpec : ChangeSpec := { name := "drillNil", fn := fun _ => fun
  | [d] => { results := [.lit (.bool true)], args := [d] }
  | _ => none }
def drillNilRow : OpenClaim := { program := "ytkconbpjimjbnab", sum := "497e5e6c53856e4c5025d40f176d25a2f5047a31733e68b9f2200bd87eb65e75", func := "pentimento/pentimentolaw39.DrillNil", spec := "drillNil", inPlace := ["internal/abi.NoEscape", "internal/bytealg.MakeNoZero"], unfollowed := true, recurses := true, apart := false }
def DrillNilSaid : Prop := drillNilRow.holds Try.pinned (OpenSpec.ofChange drillNilSpec)

/-- ITS FALSE NEIGHBOUR: 'it returns false'. Refute it at one input. -/
def drillNilWrong : ChangeSpec := { name := "drillNil", fn := fun _ => fun
  | [d] => { results := [.lit (.bool false)], args := [d] }
  | _ => none }
def DrillNilWrongFalsely : Prop := drillNilRow.holds Try.pinned (OpenSpec.ofChange drillNilWrong)

/-- 'pentimentolaw28.CostOf': WHATEVER THE INPUT: true; the input reads as it did. -/
def costOfSpec : ChangeSpec := { name := "costOf", fn := fun _ => fun
  | [d1, d2] => { results := [.lit (.bool true)], args := [d1, d2] }
  | _ => none }
def costOfRow : OpenClaim := { program := "ytkconbpjimjbnab", sum := "497e5e6c53856e4c5025d40f176d25a2f5047a31733e68b9f2200bd87eb65e75", func := "pentimento/pentimentolaw28.CostOf", spec := "costOf", unfollowed := true, recurses := true, apart := false }
def CostOfSaid : Prop := costOfRow.holds Try.pinned (OpenSpec.ofChange costOfSpec)

/-- ITS FALSE NEIGHBOUR: 'it returns false'. Refute it at one input. -/
def costOfWrong : ChangeSpec := { name := "costOf", fn := fun _ => fun
  | [d1, d2] => { results := [.lit (.bool false)], args := [d1, d2] }
  | _ => none }
def CostOfWrongFalsely : Prop := costOfRow.holds Try.pinned (OpenSpec.ofChange costOfWrong)

/- THE SECOND FORM. 'bulk': how many values and letters a reading holds, each counted each time it is reached (what is shared counts as often as it is met; a slice's spare places count too). A statement '..UptoSaid' is the law's where the arguments, and the package variables that the reading takes, are together of bulk at most 1048576: NARROWER than '..Said'. Prove '..Said' where nothing that the law and all that it calls make is longer than what came in: it says more and counts as full. Else prove '..UptoSaid'. A law counts once. -/
mutual
def uptoBulk {H : Type} : DataW H → Nat
  | .lit (.string bytes) => bytes.length + 1
  | .lit _ => 1
  | .nil => 1
  | .ptr d => uptoBulk d + 1
  | .slice elems spare => uptoBulkAll elems + uptoBulkAll spare + 1
  | .agg parts => uptoBulkAll parts + 1
  | .iface _ d => uptoBulk d + 1
  | .map entries => uptoBulkEntries entries + 1
  | .held _ => 1
def uptoBulkAll {H : Type} : List (DataW H) → Nat
  | [] => 0
  | d :: r => uptoBulk d + uptoBulkAll r
def uptoBulkEntries {H : Type} : List (Lit × DataW H) → Nat
  | [] => 0
  | x :: r => uptoBulkEntry x + uptoBulkEntries r
def uptoBulkEntry {H : Type} : Lit × DataW H → Nat
  | (.string bytes, d) => bytes.length + uptoBulk d + 1
  | (_, d) => uptoBulk d + 1
 end
def uptoSmall : (H : Type) → List (DataW H) → Bool := fun _ ds => decide (uptoBulkAll ds ≤ 1048576)
def OpenSpec.upto (s : _root_.Go.ChangeSpec) : _root_.Go.OpenSpec := { _root_.Go.OpenSpec.ofChange s with cond := some uptoSmall }

/-- 'pentimentolaw39.DrillRolls', WHERE WHAT IT READS IS OF BULK AT MOST 1048576: true; the input reads as it did. -/
def drillRollsUptoRow : OpenClaim := { program := "ytkconbpjimjbnab", sum := "497e5e6c53856e4c5025d40f176d25a2f5047a31733e68b9f2200bd87eb65e75", func := "pentimento/pentimentolaw39.DrillRolls", spec := "drillRolls", inPlace := ["internal/abi.NoEscape", "internal/bytealg.MakeNoZero"], unfollowed := true, recurses := true, apart := false, narrowed := true }
def DrillRollsUptoSaid : Prop := drillRollsUptoRow.holds Try.pinned (OpenSpec.upto drillRollsSpec)

/-- 'pentimentolaw39.DrillSteps', WHERE WHAT IT READS IS OF BULK AT MOST 1048576: true; the input reads as it did. -/
def drillStepsUptoRow : OpenClaim := { program := "ytkconbpjimjbnab", sum := "497e5e6c53856e4c5025d40f176d25a2f5047a31733e68b9f2200bd87eb65e75", func := "pentimento/pentimentolaw39.DrillSteps", spec := "drillSteps", inPlace := ["internal/abi.NoEscape", "internal/bytealg.MakeNoZero"], unfollowed := true, recurses := true, apart := false, narrowed := true }
def DrillStepsUptoSaid : Prop := drillStepsUptoRow.holds Try.pinned (OpenSpec.upto drillStepsSpec)

/-- 'pentimentolaw39.DrillFirst', WHERE WHAT IT READS IS OF BULK AT MOST 1048576: true; the input reads as it did. -/
def drillFirstUptoRow : OpenClaim := { program := "ytkconbpjimjbnab", sum := "497e5e6c53856e4c5025d40f176d25a2f5047a31733e68b9f2200bd87eb65e75", func := "pentimento/pentimentolaw39.DrillFirst", spec := "drillFirst", inPlace := ["internal/abi.NoEscape", "internal/bytealg.MakeNoZero"], unfollowed := true, recurses := true, apart := false, narrowed := true }
def DrillFirstUptoSaid : Prop := drillFirstUptoRow.holds Try.pinned (OpenSpec.upto drillFirstSpec)

/-- 'pentimentolaw39.DrillNil', WHERE WHAT IT READS IS OF BULK AT MOST 1048576: true; the input reads as it did. -/
def drillNilUptoRow : OpenClaim := { program := "ytkconbpjimjbnab", sum := "497e5e6c53856e4c5025d40f176d25a2f5047a31733e68b9f2200bd87eb65e75", func := "pentimento/pentimentolaw39.DrillNil", spec := "drillNil", inPlace := ["internal/abi.NoEscape", "internal/bytealg.MakeNoZero"], unfollowed := true, recurses := true, apart := false, narrowed := true }
def DrillNilUptoSaid : Prop := drillNilUptoRow.holds Try.pinned (OpenSpec.upto drillNilSpec)

/-- 'pentimentolaw28.CostOf', WHERE WHAT IT READS IS OF BULK AT MOST 1048576: true; the input reads as it did. -/
def costOfUptoRow : OpenClaim := { program := "ytkconbpjimjbnab", sum := "497e5e6c53856e4c5025d40f176d25a2f5047a31733e68b9f2200bd87eb65e75", func := "pentimento/pentimentolaw28.CostOf", spec := "costOf", unfollowed := true, recurses := true, apart := false, narrowed := true }
def CostOfUptoSaid : Prop := costOfUptoRow.holds Try.pinned (OpenSpec.upto costOfSpec)

end Rows
end Go.Proofs.Ytkconbpjimjbnab
