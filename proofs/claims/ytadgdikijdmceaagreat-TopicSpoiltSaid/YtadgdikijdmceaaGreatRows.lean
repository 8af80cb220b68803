/-
  No cell of these rows narrows 'for every input' (looked for: loops, veiled, ifaces, maps, wideKeys, modest, calm, conditions, laid).
  DERIVED. THE GIVEN ROWS OF THIS SEAT. 5 by the template 'for every input the law returns true; each argument reads behind the call as it read before'; 0 by the template 'total and deterministic' (their statements: YtadgdikijdmceaaGreatTotals.lean).
  GIVEN WITH THE SEED: the statements are not yours to turn. If you find one false, say at which input.
  Laid BY PROGRAM, IN A SANDBOX (cutbox-rows.mjs): the forced cells as the released guide's own fill.sh prints them over the translation 3a937f65055a8dfd… (all of the seat's roots in one cut). By AI agents, Wed Nov 11 2026. No macro, syntax, notation, axiom, sorry.
-/
import Derived.Test.YtadgdikijdmceaaGreatChecked
import GoSem.Claim
import GoSem.ClaimJoined
import GoSem.ClaimMapViews
import Derived.JoinedTies
import Derived.KernelRfl
namespace Go.Proofs.YtadgdikijdmceaaGreat
/- THE CELL 'sum', in the pinned program and in every row, IS THE sha256 OF THE DUMP (.gsa) THAT YtadgdikijdmceaaGreatProg.lean LOADS. Nothing in Lean hashes anything: it is a label: what it is worth is what the hold of that sum in a sandbox is worth. -/
noncomputable def Tryz.pinned : Pinned := { name := "ytadgdikijdmceaagreat", sum := "3a937f65055a8dfdcabc56e4154967426205e1a66e971e6778dd58236524aee4", checked := Tryz.checked }
namespace Rows
def none {H : Type} : Left H := { results := [], args := [] }

/-- 'fasciclelaw18.TopicNil': WHATEVER THE INPUT: true; the input reads as it did. -/
def topicNilSpec : ChangeSpec := { name := "topicNil", fn := fun _ => fun
  | [d1, d2, d3] => { results := [.lit (.bool true)], args := [d1, d2, d3] }
  | _ => none }
def topicNilRow : OpenClaim := { program := "ytadgdikijdmceaagreat", sum := "3a937f65055a8dfdcabc56e4154967426205e1a66e971e6778dd58236524aee4", func := "fascicle/fasciclelaw18.TopicNil", spec := "topicNil", inPlace := ["maps.clone", "internal/abi.NoEscape"], unfollowed := true, recurses := true, apart := false }
def TopicNilSaid : Prop := topicNilRow.holds Tryz.pinned (OpenSpec.ofChange topicNilSpec)

/-- ITS FALSE NEIGHBOUR: 'it returns false'. Refute it at one input. -/
def topicNilWrong : ChangeSpec := { name := "topicNil", fn := fun _ => fun
  | [d1, d2, d3] => { results := [.lit (.bool false)], args := [d1, d2, d3] }
  | _ => none }
def TopicNilWrongFalsely : Prop := topicNilRow.holds Tryz.pinned (OpenSpec.ofChange topicNilWrong)

/-- 'fasciclelaw18.TopicSpoilt': WHATEVER THE INPUT: true; the input reads as it did. -/
def topicSpoiltSpec : ChangeSpec := { name := "topicSpoilt", fn := fun _ => fun
  | [d1, d2, d3, d4, d5] => { results := [.lit (.bool true)], args := [d1, d2, d3, d4, d5] }
  | _ => none }
def topicSpoiltRow : OpenClaim := { program := "ytadgdikijdmceaagreat", sum := "3a937f65055a8dfdcabc56e4154967426205e1a66e971e6778dd58236524aee4", func := "fascicle/fasciclelaw18.TopicSpoilt", spec := "topicSpoilt", inPlace := ["maps.clone", "internal/abi.NoEscape"], unfollowed := true, recurses := true, apart := false }
def TopicSpoiltSaid : Prop := topicSpoiltRow.holds Tryz.pinned (OpenSpec.ofChange topicSpoiltSpec)

/-- ITS FALSE NEIGHBOUR: 'it returns false'. Refute it at one input. -/
def topicSpoiltWrong : ChangeSpec := { name := "topicSpoilt", fn := fun _ => fun
  | [d1, d2, d3, d4, d5] => { results := [.lit (.bool false)], args := [d1, d2, d3, d4, d5] }
  | _ => none }
def TopicSpoiltWrongFalsely : Prop := topicSpoiltRow.holds Tryz.pinned (OpenSpec.ofChange topicSpoiltWrong)

/-- 'fasciclelaw18.TopicCrash': WHATEVER THE INPUT: true; the input reads as it did. -/
def topicCrashSpec : ChangeSpec := { name := "topicCrash", fn := fun _ => fun
  | [d1, d2] => { results := [.lit (.bool true)], args := [d1, d2] }
  | _ => none }
def topicCrashRow : OpenClaim := { program := "ytadgdikijdmceaagreat", sum := "3a937f65055a8dfdcabc56e4154967426205e1a66e971e6778dd58236524aee4", func := "fascicle/fasciclelaw18.TopicCrash", spec := "topicCrash", inPlace := ["maps.clone", "internal/abi.NoEscape"], unfollowed := true, recurses := true, apart := false }
def TopicCrashSaid : Prop := topicCrashRow.holds Tryz.pinned (OpenSpec.ofChange topicCrashSpec)

/-- ITS FALSE NEIGHBOUR: 'it returns false'. Refute it at one input. -/
def topicCrashWrong : ChangeSpec := { name := "topicCrash", fn := fun _ => fun
  | [d1, d2] => { results := [.lit (.bool false)], args := [d1, d2] }
  | _ => none }
def TopicCrashWrongFalsely : Prop := topicCrashRow.holds Tryz.pinned (OpenSpec.ofChange topicCrashWrong)

/-- 'fasciclelaw18.TopicPlays': WHATEVER THE INPUT: true; the input reads as it did. -/
def topicPlaysSpec : ChangeSpec := { name := "topicPlays", fn := fun _ => fun
  | [d1, d2] => { results := [.lit (.bool true)], args := [d1, d2] }
  | _ => none }
def topicPlaysRow : OpenClaim := { program := "ytadgdikijdmceaagreat", sum := "3a937f65055a8dfdcabc56e4154967426205e1a66e971e6778dd58236524aee4", func := "fascicle/fasciclelaw18.TopicPlays", spec := "topicPlays", inPlace := ["maps.clone", "internal/abi.NoEscape"], unfollowed := true, recurses := true, apart := false }
def TopicPlaysSaid : Prop := topicPlaysRow.holds Tryz.pinned (OpenSpec.ofChange topicPlaysSpec)

/-- ITS FALSE NEIGHBOUR: 'it returns false'. Refute it at one input. -/
def topicPlaysWrong : ChangeSpec := { name := "topicPlays", fn := fun _ => fun
  | [d1, d2] => { results := [.lit (.bool false)], args := [d1, d2] }
  | _ => none }
def TopicPlaysWrongFalsely : Prop := topicPlaysRow.holds Tryz.pinned (OpenSpec.ofChange topicPlaysWrong)

/-- 'fasciclelaw18.TopicFull': WHATEVER THE INPUT: true; the input reads as it did. -/
def topicFullSpec : ChangeSpec := { name := "topicFull", fn := fun _ => fun
  | [d1, d2, d3] => { results := [.lit (.bool true)], args := [d1, d2, d3] }
  | _ => none }
def topicFullRow : OpenClaim := { program := "ytadgdikijdmceaagreat", sum := "3a937f65055a8dfdcabc56e4154967426205e1a66e971e6778dd58236524aee4", func := "fascicle/fasciclelaw18.TopicFull", spec := "topicFull", inPlace := ["maps.clone", "internal/abi.NoEscape"], unfollowed := true, recurses := true, apart := false }
def TopicFullSaid : Prop := topicFullRow.holds Tryz.pinned (OpenSpec.ofChange topicFullSpec)

/-- ITS FALSE NEIGHBOUR: 'it returns false'. Refute it at one input. -/
def topicFullWrong : ChangeSpec := { name := "topicFull", fn := fun _ => fun
  | [d1, d2, d3] => { results := [.lit (.bool false)], args := [d1, d2, d3] }
  | _ => none }
def TopicFullWrongFalsely : Prop := topicFullRow.holds Tryz.pinned (OpenSpec.ofChange topicFullWrong)

/- THE SECOND FORM. 'bulk': how many values and letters a reading holds, each counted each time it is reached (what is shared counts as often as it is met; a slice's spare places count too). A statement '..UptoSaid' is the law's where the arguments, and the package variables that the reading takes, are together of bulk at most 1048576: NARROWER than '..Said'. Prove '..Said' where nothing that the law and all that it calls make is longer than what came in: it says more and counts as full. Else prove '..UptoSaid'. A law counts once. -/
mutual
def uptoBulk {H : Type} : DataW H → Nat
  | .lit (.string bytes) => bytes.length + 1
  | .lit _ => 1
  | .nil => 1
  | .ptr d => uptoBulk d + 1
  | .slice elems spare => uptoBulkAll elems + uptoBulkAll spare + 1
  | .agg parts => uptoBulkAll parts + 1
  | .iface _ d => uptoBulk d + 1
  | .map entries => uptoBulkEntries entries + 1
  | .held _ => 1
def uptoBulkAll {H : Type} : List (DataW H) → Nat
  | [] => 0
  | d :: r => uptoBulk d + uptoBulkAll r
def uptoBulkEntries {H : Type} : List (Lit × DataW H) → Nat
  | [] => 0
  | x :: r => uptoBulkEntry x + uptoBulkEntries r
def uptoBulkEntry {H : Type} : Lit × DataW H → Nat
  | (.string bytes, d) => bytes.length + uptoBulk d + 1
  | (_, d) => uptoBulk d + 1
 end
def uptoSmall : (H : Type) → List (DataW H) → Bool := fun _ ds => decide (uptoBulkAll ds ≤ 1048576)
def OpenSpec.upto (s : _root_.Go.ChangeSpec) : _root_.Go.OpenSpec := { _root_.Go.OpenSpec.ofChange s with cond := some uptoSmall }

/-- 'fasciclelaw18.TopicNil', WHERE WHAT IT READS IS OF BULK AT MOST 1048576: true; the input reads as it did. -/
def topicNilUptoRow : OpenClaim := { program := "ytadgdikijdmceaagreat", sum := "3a937f65055a8dfdcabc56e4154967426205e1a66e971e6778dd58236524aee4", func := "fascicle/fasciclelaw18.TopicNil", spec := "topicNil", inPlace := ["maps.clone", "internal/abi.NoEscape"], unfollowed := true, recurses := true, apart := false, narrowed := true }
def TopicNilUptoSaid : Prop := topicNilUptoRow.holds Tryz.pinned (OpenSpec.upto topicNilSpec)

/-- 'fasciclelaw18.TopicSpoilt', WHERE WHAT IT READS IS OF BULK AT MOST 1048576: true; the input reads as it did. -/
def topicSpoiltUptoRow : OpenClaim := { program := "ytadgdikijdmceaagreat", sum := "3a937f65055a8dfdcabc56e4154967426205e1a66e971e6778dd58236524aee4", func := "fascicle/fasciclelaw18.TopicSpoilt", spec := "topicSpoilt", inPlace := ["maps.clone", "internal/abi.NoEscape"], unfollowed := true, recurses := true, apart := false, narrowed := true }
def TopicSpoiltUptoSaid : Prop := topicSpoiltUptoRow.holds Tryz.pinned (OpenSpec.upto topicSpoiltSpec)

/-- 'fasciclelaw18.TopicCrash', WHERE WHAT IT READS IS OF BULK AT MOST 1048576: true; the input reads as it did. -/
def topicCrashUptoRow : OpenClaim := { program := "ytadgdikijdmceaagreat", sum := "3a937f65055a8dfdcabc56e4154967426205e1a66e971e6778dd58236524aee4", func := "fascicle/fasciclelaw18.TopicCrash", spec := "topicCrash", inPlace := ["maps.clone", "internal/abi.NoEscape"], unfollowed := true, recurses := true, apart := false, narrowed := true }
def TopicCrashUptoSaid : Prop := topicCrashUptoRow.holds Tryz.pinned (OpenSpec.upto topicCrashSpec)

/-- 'fasciclelaw18.TopicPlays', WHERE WHAT IT READS IS OF BULK AT MOST 1048576: true; the input reads as it did. -/
def topicPlaysUptoRow : OpenClaim := { program := "ytadgdikijdmceaagreat", sum := "3a937f65055a8dfdcabc56e4154967426205e1a66e971e6778dd58236524aee4", func := "fascicle/fasciclelaw18.TopicPlays", spec := "topicPlays", inPlace := ["maps.clone", "internal/abi.NoEscape"], unfollowed := true, recurses := true, apart := false, narrowed := true }
def TopicPlaysUptoSaid : Prop := topicPlaysUptoRow.holds Tryz.pinned (OpenSpec.upto topicPlaysSpec)

/-- 'fasciclelaw18.TopicFull', WHERE WHAT IT READS IS OF BULK AT MOST 1048576: true; the input reads as it did. -/
def topicFullUptoRow : OpenClaim := { program := "ytadgdikijdmceaagreat", sum := "3a937f65055a8dfdcabc56e4154967426205e1a66e971e6778dd58236524aee4", func := "fascicle/fasciclelaw18.TopicFull", spec := "topicFull", inPlace := ["maps.clone", "internal/abi.NoEscape"], unfollowed := true, recurses := true, apart := false, narrowed := true }
def TopicFullUptoSaid : Prop := topicFullUptoRow.holds Tryz.pinned (OpenSpec.upto topicFullSpec)

end Rows
end Go.Proofs.YtadgdikijdmceaaGreat
