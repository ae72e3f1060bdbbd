/-
  No cell of these rows narrows 'for every input' (looked for: loops, veiled, ifaces, maps, wideKeys, modest, calm, conditions, laid).
  DERIVED. THE GIVEN ROWS OF THIS SEAT. 5 by the template 'for every input the law returns true; each argument reads behind the call as it read before'; 0 by the template 'total and deterministic' (their statements: YtkconbpjimjbnaaTotals.lean).
  GIVEN WITH THE SEED: the statements are not yours to turn. If you find one false, say at which input.
  Laid BY PROGRAM, IN A SANDBOX (cutbox-rows.mjs): the forced cells as the released guide's own fill.sh prints them over the translation 0a25801b64ca728f… (all of the seat's roots in one cut). By AI agents, Wed Nov 11 2026. No macro, syntax, notation, axiom, sorry.
-/
import Derived.Test.YtkconbpjimjbnaaChecked
import GoSem.Claim
import GoSem.ClaimJoined
import GoSem.ClaimMapViews
import Derived.JoinedTies
import Derived.KernelRfl
namespace Go.Proofs.Ytkconbpjimjbnaa
/- THE CELL 'sum', in the pinned program and in every row, IS THE sha256 OF THE DUMP (.gsa) THAT YtkconbpjimjbnaaProg.lean LOADS. Nothing in Lean hashes anything: it is a label: what it is worth is what the hold of that sum in a sandbox is worth. -/
noncomputable def Try.pinned : Pinned := { name := "ytkconbpjimjbnaa", sum := "0a25801b64ca728f1da2ad7c924be898fb5e4f10fda877c06690b3e2615b3804", checked := Try.checked }
namespace Rows
def none {H : Type} : Left H := { results := [], args := [] }

/-- 'pentimentolaw37.TracePlays': WHATEVER THE INPUT: true; the input reads as it did. -/
def tracePlaysSpec : ChangeSpec := { name := "tracePlays", fn := fun _ => fun
  | [d] => { results := [.lit (.bool true)], args := [d] }
  | _ => none }
def tracePlaysRow : OpenClaim := { program := "ytkconbpjimjbnaa", sum := "0a25801b64ca728f1da2ad7c924be898fb5e4f10fda877c06690b3e2615b3804", func := "pentimento/pentimentolaw37.TracePlays", spec := "tracePlays", apart := false }
def TracePlaysSaid : Prop := tracePlaysRow.holds Try.pinned (OpenSpec.ofChange tracePlaysSpec)

/-- ITS FALSE NEIGHBOUR: 'it returns false'. Refute it at one input. -/
def tracePlaysWrong : ChangeSpec := { name := "tracePlays", fn := fun _ => fun
  | [d] => { results := [.lit (.bool false)], args := [d] }
  | _ => none }
def TracePlaysWrongFalsely : Prop := tracePlaysRow.holds Try.pinned (OpenSpec.ofChange tracePlaysWrong)

/-- 'pentimentolaw29.ScriptPuts': WHATEVER THE INPUT: true; the input reads as it did. -/
def scriptPutsSpec : ChangeSpec := { name := "scriptPuts", fn := fun _ => fun
  | [d1, d2] => { results := [.lit (.bool true)], args := [d1, d2] }
  | _ => none }
def scriptPutsRow : OpenClaim := { program := "ytkconbpjimjbnaa", sum := "0a25801b64ca728f1da2ad7c924be898fb5e4f10fda877c06690b3e2615b3804", func := "pentimento/pentimentolaw29.ScriptPuts", spec := "scriptPuts", apart := false }
def ScriptPutsSaid : Prop := scriptPutsRow.holds Try.pinned (OpenSpec.ofChange scriptPutsSpec)

/-- ITS FALSE NEIGHBOUR: 'it returns false'. Refute it at one input. -/
def scriptPutsWrong : ChangeSpec := { name := "scriptPuts", fn := fun _ => fun
  | [d1, d2] => { results := [.lit (.bool false)], args := [d1, d2] }
  | _ => none }
def ScriptPutsWrongFalsely : Prop := scriptPutsRow.holds Try.pinned (OpenSpec.ofChange scriptPutsWrong)

/-- 'pentimentolaw29.ScriptAlike': WHATEVER THE INPUT: true; the input reads as it did. -/
def scriptAlikeSpec : ChangeSpec := { name := "scriptAlike", fn := fun _ => fun
  | [d1, d2] => { results := [.lit (.bool true)], args := [d1, d2] }
  | _ => none }
def scriptAlikeRow : OpenClaim := { program := "ytkconbpjimjbnaa", sum := "0a25801b64ca728f1da2ad7c924be898fb5e4f10fda877c06690b3e2615b3804", func := "pentimento/pentimentolaw29.ScriptAlike", spec := "scriptAlike", apart := false }
def ScriptAlikeSaid : Prop := scriptAlikeRow.holds Try.pinned (OpenSpec.ofChange scriptAlikeSpec)

/-- ITS FALSE NEIGHBOUR: 'it returns false'. Refute it at one input. -/
def scriptAlikeWrong : ChangeSpec := { name := "scriptAlike", fn := fun _ => fun
  | [d1, d2] => { results := [.lit (.bool false)], args := [d1, d2] }
  | _ => none }
def ScriptAlikeWrongFalsely : Prop := scriptAlikeRow.holds Try.pinned (OpenSpec.ofChange scriptAlikeWrong)

/-- 'pentimentolaw29.ScriptGets': WHATEVER THE INPUT: true; the input reads as it did. -/
def scriptGetsSpec : ChangeSpec := { name := "scriptGets", fn := fun _ => fun
  | [d] => { results := [.lit (.bool true)], args := [d] }
  | _ => none }
def scriptGetsRow : OpenClaim := { program := "ytkconbpjimjbnaa", sum := "0a25801b64ca728f1da2ad7c924be898fb5e4f10fda877c06690b3e2615b3804", func := "pentimento/pentimentolaw29.ScriptGets", spec := "scriptGets", unfollowed := true, recurses := true, apart := false }
def ScriptGetsSaid : Prop := scriptGetsRow.holds Try.pinned (OpenSpec.ofChange scriptGetsSpec)

/-- ITS FALSE NEIGHBOUR: 'it returns false'. Refute it at one input. -/
def scriptGetsWrong : ChangeSpec := { name := "scriptGets", fn := fun _ => fun
  | [d] => { results := [.lit (.bool false)], args := [d] }
  | _ => none }
def ScriptGetsWrongFalsely : Prop := scriptGetsRow.holds Try.pinned (OpenSpec.ofChange scriptGetsWrong)

/-- 'pentimentolaw29.ScriptAlls': WHATEVER THE INPUT: true; the input reads as it did. -/
def scriptAllsSpec : ChangeSpec := { name := "scriptAlls", fn := fun _ => fun
  | [d] => { results := [.lit (.bool true)], args := [d] }
  | _ => none }
def scriptAllsRow : OpenClaim := { program := "ytkconbpjimjbnaa", sum := "0a25801b64ca728f1da2ad7c924be898fb5e4f10fda877c06690b3e2615b3804", func := "pentimento/pentimentolaw29.ScriptAlls", spec := "scriptAlls", unfollowed := true, recurses := true, apart := false }
def ScriptAllsSaid : Prop := scriptAllsRow.holds Try.pinned (OpenSpec.ofChange scriptAllsSpec)

/-- ITS FALSE NEIGHBOUR: 'it returns false'. Refute it at one input. -/
def scriptAllsWrong : ChangeSpec := { name := "scriptAlls", fn := fun _ => fun
  | [d] => { results := [.lit (.bool false)], args := [d] }
  | _ => none }
def ScriptAllsWrongFalsely : Prop := scriptAllsRow.holds Try.pinned (OpenSpec.ofChange scriptAllsWrong)

/- THE SECOND FORM. 'bulk': how many values and letters a reading holds, each counted each time it is reached (what is shared counts as often as it is met; a slice's spare places count too). A statement '..UptoSaid' is the law's where the arguments, and the package variables that the reading takes, are together of bulk at most 1048576: NARROWER than '..Said'. Prove '..Said' where nothing that the law and all that it calls make is longer than what came in: it says more and counts as full. Else prove '..UptoSaid'. A law counts once. -/
mutual
def uptoBulk {H : Type} : DataW H → Nat
  | .lit (.string bytes) => bytes.length + 1
  | .lit _ => 1
  | .nil => 1
  | .ptr d => uptoBulk d + 1
  | .slice elems spare => uptoBulkAll elems + uptoBulkAll spare + 1
  | .agg parts => uptoBulkAll parts + 1
  | .iface _ d => uptoBulk d + 1
  | .map entries => uptoBulkEntries entries + 1
  | .held _ => 1
def uptoBulkAll {H : Type} : List (DataW H) → Nat
  | [] => 0
  | d :: r => uptoBulk d + uptoBulkAll r
def uptoBulkEntries {H : Type} : List (Lit × DataW H) → Nat
  | [] => 0
  | x :: r => uptoBulkEntry x + uptoBulkEntries r
def uptoBulkEntry {H : Type} : Lit × DataW H → Nat
  | (.string bytes, d) => bytes.length + uptoBulk d + 1
  | (_, d) => uptoBulk d + 1
 end
def uptoSmall : (H : Type) → List (DataW H) → Bool := fun _ ds => decide (uptoBulkAll ds ≤ 1048576)
def OpenSpec.upto (s : _root_.Go.ChangeSpec) : _root_.Go.OpenSpec := { _root_.Go.OpenSpec.ofChange s with cond := some uptoSmall }

/-- 'pentimentolaw37.TracePlays', WHERE WHAT IT READS IS OF BULK AT MOST 1048576: true; the input reads as it did. -/
def tracePlaysUptoRow : OpenClaim := { program := "ytkconbpjimjbnaa", sum := "0a25801b64ca728f1da2ad7c924be898fb5e4f10fda877c06690b3e2615b3804", func := "pentimento/pentimentolaw37.TracePlays", spec := "tracePlays", apart := false, narrowed := true }
def TracePlaysUptoSaid : Prop := tracePlaysUptoRow.holds Try.pinned (OpenSpec.upto tracePlaysSpec)

/-- 'pentimentolaw29.ScriptPuts', WHERE WHAT IT READS IS OF BULK AT MOST 1048576: true; the input reads as it did. -/
def scriptPutsUptoRow : OpenClaim := { program := "ytkconbpjimjbnaa", sum := "0a25801b64ca728f1da2ad7c924be898fb5e4f10fda877c06690b3e2615b3804", func := "pentimento/pentimentolaw29.ScriptPuts", spec := "scriptPuts", apart := false, narrowed := true }
def ScriptPutsUptoSaid : Prop := scriptPutsUptoRow.holds Try.pinned (OpenSpec.upto scriptPutsSpec)

/-- 'pentimentolaw29.ScriptAlike', WHERE WHAT IT READS IS OF BULK AT MOST 1048576: true; the input reads as it did. -/
def scriptAlikeUptoRow : OpenClaim := { program := "ytkconbpjimjbnaa", sum := "0a25801b64ca728f1da2ad7c924be898fb5e4f10fda877c06690b3e2615b3804", func := "pentimento/pentimentolaw29.ScriptAlike", spec := "scriptAlike", apart := false, narrowed := true }
def ScriptAlikeUptoSaid : Prop := scriptAlikeUptoRow.holds Try.pinned (OpenSpec.upto scriptAlikeSpec)

/-- 'pentimentolaw29.ScriptGets', WHERE WHAT IT READS IS OF BULK AT MOST 1048576: true; the input reads as it did. -/
def scriptGetsUptoRow : OpenClaim := { program := "ytkconbpjimjbnaa", sum := "0a25801b64ca728f1da2ad7c924be898fb5e4f10fda877c06690b3e2615b3804", func := "pentimento/pentimentolaw29.ScriptGets", spec := "scriptGets", unfollowed := true, recurses := true, apart := false, narrowed := true }
def ScriptGetsUptoSaid : Prop := scriptGetsUptoRow.holds Try.pinned (OpenSpec.upto scriptGetsSpec)

/-- 'pentimentolaw29.ScriptAlls', WHERE WHAT IT READS IS OF BULK AT MOST 1048576: true; the input reads as it did. -/
def scriptAllsUptoRow : OpenClaim := { program := "ytkconbpjimjbnaa", sum := "0a25801b64ca728f1da2ad7c924be898fb5e4f10fda877c06690b3e2615b3804", func := "pentimento/pentimentolaw29.ScriptAlls", spec := "scriptAlls", unfollowed := true, recurses := true, apart := false, narrowed := true }
def ScriptAllsUptoSaid : Prop := scriptAllsUptoRow.holds Try.pinned (OpenSpec.upto scriptAllsSpec)

end Rows
end Go.Proofs.Ytkconbpjimjbnaa
