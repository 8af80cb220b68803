/-
  No cell of these rows narrows 'for every input' (looked for: loops, veiled, ifaces, maps, wideKeys, modest, calm, conditions, laid).
  DERIVED. THE GIVEN ROWS OF THIS SEAT. 5 by the template 'for every input the law returns true; each argument reads behind the call as it read before'; 0 by the template 'total and deterministic' (their statements: YtgbmjoenbocfcaaGreatTotals.lean).
  GIVEN WITH THE SEED: the statements are not yours to turn. If you find one false, say at which input.
  Laid BY PROGRAM, IN A SANDBOX (cutbox-rows.mjs): the forced cells as the released guide's own fill.sh prints them over the translation a98c101dbcfcedbb… (all of the seat's roots in one cut). By AI agents, Wed Nov 11 2026. No macro, syntax, notation, axiom, sorry.
-/
import Derived.Test.YtgbmjoenbocfcaaGreatChecked
import GoSem.Claim
import GoSem.ClaimJoined
import GoSem.ClaimMapViews
import Derived.JoinedTies
import Derived.KernelRfl
namespace Go.Proofs.YtgbmjoenbocfcaaGreat
/- THE CELL 'sum', in the pinned program and in every row, IS THE sha256 OF THE DUMP (.gsa) THAT YtgbmjoenbocfcaaGreatProg.lean LOADS. Nothing in Lean hashes anything: it is a label: what it is worth is what the hold of that sum in a sandbox is worth. -/
noncomputable def Tryz.pinned : Pinned := { name := "ytgbmjoenbocfcaagreat", sum := "a98c101dbcfcedbbb408dd1aa84f9991e0cc634b51855965177d8ac23bf40114", checked := Tryz.checked }
namespace Rows
def none {H : Type} : Left H := { results := [], args := [] }

/-- 'fasciclelaw12.KvNil': WHATEVER THE INPUT: true; the input reads as it did. -/
def kvNilSpec : ChangeSpec := { name := "kvNil", fn := fun _ => fun
  | [d1, d2] => { results := [.lit (.bool true)], args := [d1, d2] }
  | _ => none }
def kvNilRow : OpenClaim := { program := "ytgbmjoenbocfcaagreat", sum := "a98c101dbcfcedbbb408dd1aa84f9991e0cc634b51855965177d8ac23bf40114", func := "fascicle/fasciclelaw12.KvNil", spec := "kvNil", inPlace := ["internal/abi.NoEscape", "maps.clone", "internal/bytealg.IndexByteString", "internal/bytealg.IndexString"], unfollowed := true, recurses := true, named := ["internal/bytealg.MaxLen"], apart := false }
def KvNilSaid : Prop := kvNilRow.holds Tryz.pinned (OpenSpec.ofChange kvNilSpec)

/-- ITS FALSE NEIGHBOUR: 'it returns false'. Refute it at one input. -/
def kvNilWrong : ChangeSpec := { name := "kvNil", fn := fun _ => fun
  | [d1, d2] => { results := [.lit (.bool false)], args := [d1, d2] }
  | _ => none }
def KvNilWrongFalsely : Prop := kvNilRow.holds Tryz.pinned (OpenSpec.ofChange kvNilWrong)

/-- 'fasciclelaw12.KvPlays': WHATEVER THE INPUT: true; the input reads as it did. -/
def kvPlaysSpec : ChangeSpec := { name := "kvPlays", fn := fun _ => fun
  | [d] => { results := [.lit (.bool true)], args := [d] }
  | _ => none }
def kvPlaysRow : OpenClaim := { program := "ytgbmjoenbocfcaagreat", sum := "a98c101dbcfcedbbb408dd1aa84f9991e0cc634b51855965177d8ac23bf40114", func := "fascicle/fasciclelaw12.KvPlays", spec := "kvPlays", inPlace := ["internal/abi.NoEscape", "maps.clone", "internal/bytealg.IndexByteString", "internal/bytealg.IndexString"], unfollowed := true, recurses := true, named := ["internal/bytealg.MaxLen"], apart := false }
def KvPlaysSaid : Prop := kvPlaysRow.holds Tryz.pinned (OpenSpec.ofChange kvPlaysSpec)

/-- ITS FALSE NEIGHBOUR: 'it returns false'. Refute it at one input. -/
def kvPlaysWrong : ChangeSpec := { name := "kvPlays", fn := fun _ => fun
  | [d] => { results := [.lit (.bool false)], args := [d] }
  | _ => none }
def KvPlaysWrongFalsely : Prop := kvPlaysRow.holds Tryz.pinned (OpenSpec.ofChange kvPlaysWrong)

/-- 'fasciclelaw12.KvFull': WHATEVER THE INPUT: true; the input reads as it did. -/
def kvFullSpec : ChangeSpec := { name := "kvFull", fn := fun _ => fun
  | [d1, d2] => { results := [.lit (.bool true)], args := [d1, d2] }
  | _ => none }
def kvFullRow : OpenClaim := { program := "ytgbmjoenbocfcaagreat", sum := "a98c101dbcfcedbbb408dd1aa84f9991e0cc634b51855965177d8ac23bf40114", func := "fascicle/fasciclelaw12.KvFull", spec := "kvFull", inPlace := ["internal/abi.NoEscape", "maps.clone", "internal/bytealg.IndexByteString", "internal/bytealg.IndexString"], unfollowed := true, recurses := true, named := ["internal/bytealg.MaxLen"], apart := false }
def KvFullSaid : Prop := kvFullRow.holds Tryz.pinned (OpenSpec.ofChange kvFullSpec)

/-- ITS FALSE NEIGHBOUR: 'it returns false'. Refute it at one input. -/
def kvFullWrong : ChangeSpec := { name := "kvFull", fn := fun _ => fun
  | [d1, d2] => { results := [.lit (.bool false)], args := [d1, d2] }
  | _ => none }
def KvFullWrongFalsely : Prop := kvFullRow.holds Tryz.pinned (OpenSpec.ofChange kvFullWrong)

/-- 'fasciclelaw12.KvCrash': WHATEVER THE INPUT: true; the input reads as it did. -/
def kvCrashSpec : ChangeSpec := { name := "kvCrash", fn := fun _ => fun
  | [d] => { results := [.lit (.bool true)], args := [d] }
  | _ => none }
def kvCrashRow : OpenClaim := { program := "ytgbmjoenbocfcaagreat", sum := "a98c101dbcfcedbbb408dd1aa84f9991e0cc634b51855965177d8ac23bf40114", func := "fascicle/fasciclelaw12.KvCrash", spec := "kvCrash", inPlace := ["internal/abi.NoEscape", "maps.clone", "internal/bytealg.IndexByteString", "internal/bytealg.IndexString"], unfollowed := true, recurses := true, named := ["internal/bytealg.MaxLen"], apart := false }
def KvCrashSaid : Prop := kvCrashRow.holds Tryz.pinned (OpenSpec.ofChange kvCrashSpec)

/-- ITS FALSE NEIGHBOUR: 'it returns false'. Refute it at one input. -/
def kvCrashWrong : ChangeSpec := { name := "kvCrash", fn := fun _ => fun
  | [d] => { results := [.lit (.bool false)], args := [d] }
  | _ => none }
def KvCrashWrongFalsely : Prop := kvCrashRow.holds Tryz.pinned (OpenSpec.ofChange kvCrashWrong)

/-- 'fasciclelaw12.KvSpoilt': WHATEVER THE INPUT: true; the input reads as it did. -/
def kvSpoiltSpec : ChangeSpec := { name := "kvSpoilt", fn := fun _ => fun
  | [d1, d2, d3, d4] => { results := [.lit (.bool true)], args := [d1, d2, d3, d4] }
  | _ => none }
def kvSpoiltRow : OpenClaim := { program := "ytgbmjoenbocfcaagreat", sum := "a98c101dbcfcedbbb408dd1aa84f9991e0cc634b51855965177d8ac23bf40114", func := "fascicle/fasciclelaw12.KvSpoilt", spec := "kvSpoilt", inPlace := ["internal/abi.NoEscape", "maps.clone", "internal/bytealg.IndexByteString", "internal/bytealg.IndexString"], unfollowed := true, recurses := true, named := ["internal/bytealg.MaxLen"], apart := false }
def KvSpoiltSaid : Prop := kvSpoiltRow.holds Tryz.pinned (OpenSpec.ofChange kvSpoiltSpec)

/-- ITS FALSE NEIGHBOUR: 'it returns false'. Refute it at one input. -/
def kvSpoiltWrong : ChangeSpec := { name := "kvSpoilt", fn := fun _ => fun
  | [d1, d2, d3, d4] => { results := [.lit (.bool false)], args := [d1, d2, d3, d4] }
  | _ => none }
def KvSpoiltWrongFalsely : Prop := kvSpoiltRow.holds Tryz.pinned (OpenSpec.ofChange kvSpoiltWrong)

/- THE SECOND FORM. 'bulk': how many values and letters a reading holds, each counted each time it is reached (what is shared counts as often as it is met; a slice's spare places count too). A statement '..UptoSaid' is the law's where the arguments, and the package variables that the reading takes, are together of bulk at most 1048576: NARROWER than '..Said'. Prove '..Said' where nothing that the law and all that it calls make is longer than what came in: it says more and counts as full. Else prove '..UptoSaid'. A law counts once. -/
mutual
def uptoBulk {H : Type} : DataW H → Nat
  | .lit (.string bytes) => bytes.length + 1
  | .lit _ => 1
  | .nil => 1
  | .ptr d => uptoBulk d + 1
  | .slice elems spare => uptoBulkAll elems + uptoBulkAll spare + 1
  | .agg parts => uptoBulkAll parts + 1
  | .iface _ d => uptoBulk d + 1
  | .map entries => uptoBulkEntries entries + 1
  | .held _ => 1
def uptoBulkAll {H : Type} : List (DataW H) → Nat
  | [] => 0
  | d :: r => uptoBulk d + uptoBulkAll r
def uptoBulkEntries {H : Type} : List (Lit × DataW H) → Nat
  | [] => 0
  | x :: r => uptoBulkEntry x + uptoBulkEntries r
def uptoBulkEntry {H : Type} : Lit × DataW H → Nat
  | (.string bytes, d) => bytes.length + uptoBulk d + 1
  | (_, d) => uptoBulk d + 1
 end
def uptoSmall : (H : Type) → List (DataW H) → Bool := fun _ ds => decide (uptoBulkAll ds ≤ 1048576)
def OpenSpec.upto (s : _root_.Go.ChangeSpec) : _root_.Go.OpenSpec := { _root_.Go.OpenSpec.ofChange s with cond := some uptoSmall }

/-- 'fasciclelaw12.KvNil', WHERE WHAT IT READS IS OF BULK AT MOST 1048576: true; the input reads as it did. -/
def kvNilUptoRow : OpenClaim := { program := "ytgbmjoenbocfcaagreat", sum := "a98c101dbcfcedbbb408dd1aa84f9991e0cc634b51855965177d8ac23bf40114", func := "fascicle/fasciclelaw12.KvNil", spec := "kvNil", inPlace := ["internal/abi.NoEscape", "maps.clone", "internal/bytealg.IndexByteString", "internal/bytealg.IndexString"], unfollowed := true, recurses := true, named := ["internal/bytealg.MaxLen"], apart := false, narrowed := true }
def KvNilUptoSaid : Prop := kvNilUptoRow.holds Tryz.pinned (OpenSpec.upto kvNilSpec)

/-- 'fasciclelaw12.KvPlays', WHERE WHAT IT READS IS OF BULK AT MOST 1048576: true; the input reads as it did. -/
def kvPlaysUptoRow : OpenClaim := { program := "ytgbmjoenbocfcaagreat", sum := "a98c101dbcfcedbbb408dd1aa84f9991e0cc634b51855965177d8ac23bf40114", func := "fascicle/fasciclelaw12.KvPlays", spec := "kvPlays", inPlace := ["internal/abi.NoEscape", "maps.clone", "internal/bytealg.IndexByteString", "internal/bytealg.IndexString"], unfollowed := true, recurses := true, named := ["internal/bytealg.MaxLen"], apart := false, narrowed := true }
def KvPlaysUptoSaid : Prop := kvPlaysUptoRow.holds Tryz.pinned (OpenSpec.upto kvPlaysSpec)

/-- 'fasciclelaw12.KvFull', WHERE WHAT IT READS IS OF BULK AT MOST 1048576: true; the input reads as it did. -/
def kvFullUptoRow : OpenClaim := { program := "ytgbmjoenbocfcaagreat", sum := "a98c101dbcfcedbbb408dd1aa84f9991e0cc634b51855965177d8ac23bf40114", func := "fascicle/fasciclelaw12.KvFull", spec := "kvFull", inPlace := ["internal/abi.NoEscape", "maps.clone", "internal/bytealg.IndexByteString", "internal/bytealg.IndexString"], unfollowed := true, recurses := true, named := ["internal/bytealg.MaxLen"], apart := false, narrowed := true }
def KvFullUptoSaid : Prop := kvFullUptoRow.holds Tryz.pinned (OpenSpec.upto kvFullSpec)

/-- 'fasciclelaw12.KvCrash', WHERE WHAT IT READS IS OF BULK AT MOST 1048576: true; the input reads as it did. -/
def kvCrashUptoRow : OpenClaim := { program := "ytgbmjoenbocfcaagreat", sum := "a98c101dbcfcedbbb408dd1aa84f9991e0cc634b51855965177d8ac23bf40114", func := "fascicle/fasciclelaw12.KvCrash", spec := "kvCrash", inPlace := ["internal/abi.NoEscape", "maps.clone", "internal/bytealg.IndexByteString", "internal/bytealg.IndexString"], unfollowed := true, recurses := true, named := ["internal/bytealg.MaxLen"], apart := false, narrowed := true }
def KvCrashUptoSaid : Prop := kvCrashUptoRow.holds Tryz.pinned (OpenSpec.upto kvCrashSpec)

/-- 'fasciclelaw12.KvSpoilt', WHERE WHAT IT READS IS OF BULK AT MOST 1048576: true; the input reads as it did. -/
def kvSpoiltUptoRow : OpenClaim := { program := "ytgbmjoenbocfcaagreat", sum := "a98c101dbcfcedbbb408dd1aa84f9991e0cc634b51855965177d8ac23bf40114", func := "fascicle/fasciclelaw12.KvSpoilt", spec := "kvSpoilt", inPlace := ["internal/abi.NoEscape", "maps.clone", "internal/bytealg.IndexByteString", "internal/bytealg.IndexString"], unfollowed := true, recurses := true, named := ["internal/bytealg.MaxLen"], apart := false, narrowed := true }
def KvSpoiltUptoSaid : Prop := kvSpoiltUptoRow.holds Tryz.pinned (OpenSpec.upto kvSpoiltSpec)

end Rows
end Go.Proofs.YtgbmjoenbocfcaaGreat
