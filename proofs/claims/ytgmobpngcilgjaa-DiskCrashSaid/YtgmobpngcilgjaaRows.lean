/-
  No cell of these rows narrows 'for every input' (looked for: loops, veiled, ifaces, maps, wideKeys, modest, calm, conditions, laid).
  DERIVED. THE GIVEN ROWS OF THIS SEAT. 11 by the template 'for every input the law returns true; each argument reads behind the call as it read before'; 0 by the template 'total and deterministic' (their statements: YtgmobpngcilgjaaTotals.lean).
  GIVEN WITH THE SEED: the statements are not yours to turn. If you find one false, say at which input.
  Laid BY PROGRAM, IN A SANDBOX (cutbox-rows.mjs): the forced cells as the released guide's own fill.sh prints them over the translation 6069742d77866994… (all of the seat's roots in one cut). By AI agents, Wed Nov 11 2026. No macro, syntax, notation, axiom, sorry.
-/
import Derived.Test.YtgmobpngcilgjaaChecked
import GoSem.Claim
import GoSem.ClaimJoined
import GoSem.ClaimMapViews
import Derived.JoinedTies
import Derived.KernelRfl
namespace Go.Proofs.Ytgmobpngcilgjaa
/- THE CELL 'sum', in the pinned program and in every row, IS THE sha256 OF THE DUMP (.gsa) THAT YtgmobpngcilgjaaProg.lean LOADS. Nothing in Lean hashes anything: it is a label: what it is worth is what the hold of that sum in a sandbox is worth. -/
noncomputable def Try.pinned : Pinned := { name := "ytgmobpngcilgjaa", sum := "6069742d77866994534a4d1e02ec0a96587b79d2fe2f06820b4205d658461e4f", checked := Try.checked }
namespace Rows
def none {H : Type} : Left H := { results := [], args := [] }

/-- 'fasciclelaw09.MemNil': WHATEVER THE INPUT: true; the input reads as it did. -/
def memNilSpec : ChangeSpec := { name := "memNil", fn := fun _ => fun
  | [d1, d2] => { results := [.lit (.bool true)], args := [d1, d2] }
  | _ => none }
def memNilRow : OpenClaim := { program := "ytgmobpngcilgjaa", sum := "6069742d77866994534a4d1e02ec0a96587b79d2fe2f06820b4205d658461e4f", func := "fascicle/fasciclelaw09.MemNil", spec := "memNil", unfollowed := true, recurses := true, apart := false }
def MemNilSaid : Prop := memNilRow.holds Try.pinned (OpenSpec.ofChange memNilSpec)

/-- ITS FALSE NEIGHBOUR: 'it returns false'. Refute it at one input. -/
def memNilWrong : ChangeSpec := { name := "memNil", fn := fun _ => fun
  | [d1, d2] => { results := [.lit (.bool false)], args := [d1, d2] }
  | _ => none }
def MemNilWrongFalsely : Prop := memNilRow.holds Try.pinned (OpenSpec.ofChange memNilWrong)

/-- 'fasciclelaw02.DiskStill': WHATEVER THE INPUT: true; the input reads as it did. -/
def diskStillSpec : ChangeSpec := { name := "diskStill", fn := fun _ => fun
  | [d1, d2] => { results := [.lit (.bool true)], args := [d1, d2] }
  | _ => none }
def diskStillRow : OpenClaim := { program := "ytgmobpngcilgjaa", sum := "6069742d77866994534a4d1e02ec0a96587b79d2fe2f06820b4205d658461e4f", func := "fascicle/fasciclelaw02.DiskStill", spec := "diskStill", inPlace := ["maps.clone"], unfollowed := true, recurses := true, apart := false }
def DiskStillSaid : Prop := diskStillRow.holds Try.pinned (OpenSpec.ofChange diskStillSpec)

/-- ITS FALSE NEIGHBOUR: 'it returns false'. Refute it at one input. -/
def diskStillWrong : ChangeSpec := { name := "diskStill", fn := fun _ => fun
  | [d1, d2] => { results := [.lit (.bool false)], args := [d1, d2] }
  | _ => none }
def DiskStillWrongFalsely : Prop := diskStillRow.holds Try.pinned (OpenSpec.ofChange diskStillWrong)

/-- 'fasciclelaw08.WalCrash': WHATEVER THE INPUT: true; the input reads as it did. -/
def walCrashSpec : ChangeSpec := { name := "walCrash", fn := fun _ => fun
  | [d] => { results := [.lit (.bool true)], args := [d] }
  | _ => none }
def walCrashRow : OpenClaim := { program := "ytgmobpngcilgjaa", sum := "6069742d77866994534a4d1e02ec0a96587b79d2fe2f06820b4205d658461e4f", func := "fascicle/fasciclelaw08.WalCrash", spec := "walCrash", inPlace := ["maps.clone", "internal/abi.NoEscape"], unfollowed := true, recurses := true, apart := false }
def WalCrashSaid : Prop := walCrashRow.holds Try.pinned (OpenSpec.ofChange walCrashSpec)

/-- ITS FALSE NEIGHBOUR: 'it returns false'. Refute it at one input. -/
def walCrashWrong : ChangeSpec := { name := "walCrash", fn := fun _ => fun
  | [d] => { results := [.lit (.bool false)], args := [d] }
  | _ => none }
def WalCrashWrongFalsely : Prop := walCrashRow.holds Try.pinned (OpenSpec.ofChange walCrashWrong)

/-- 'fasciclelaw11.ManTells': WHATEVER THE INPUT: true; the input reads as it did. -/
def manTellsSpec : ChangeSpec := { name := "manTells", fn := fun _ => fun
  | [d1, d2] => { results := [.lit (.bool true)], args := [d1, d2] }
  | _ => none }
def manTellsRow : OpenClaim := { program := "ytgmobpngcilgjaa", sum := "6069742d77866994534a4d1e02ec0a96587b79d2fe2f06820b4205d658461e4f", func := "fascicle/fasciclelaw11.ManTells", spec := "manTells", inPlace := ["internal/abi.NoEscape", "maps.clone"], unfollowed := true, recurses := true, apart := false }
def ManTellsSaid : Prop := manTellsRow.holds Try.pinned (OpenSpec.ofChange manTellsSpec)

/-- ITS FALSE NEIGHBOUR: 'it returns false'. Refute it at one input. -/
def manTellsWrong : ChangeSpec := { name := "manTells", fn := fun _ => fun
  | [d1, d2] => { results := [.lit (.bool false)], args := [d1, d2] }
  | _ => none }
def ManTellsWrongFalsely : Prop := manTellsRow.holds Try.pinned (OpenSpec.ofChange manTellsWrong)

/-- 'fasciclelaw11.ManNil': WHATEVER THE INPUT: true; the input reads as it did. -/
def manNilSpec : ChangeSpec := { name := "manNil", fn := fun _ => fun
  | [d1, d2] => { results := [.lit (.bool true)], args := [d1, d2] }
  | _ => none }
def manNilRow : OpenClaim := { program := "ytgmobpngcilgjaa", sum := "6069742d77866994534a4d1e02ec0a96587b79d2fe2f06820b4205d658461e4f", func := "fascicle/fasciclelaw11.ManNil", spec := "manNil", inPlace := ["internal/abi.NoEscape", "maps.clone"], unfollowed := true, recurses := true, apart := false }
def ManNilSaid : Prop := manNilRow.holds Try.pinned (OpenSpec.ofChange manNilSpec)

/-- ITS FALSE NEIGHBOUR: 'it returns false'. Refute it at one input. -/
def manNilWrong : ChangeSpec := { name := "manNil", fn := fun _ => fun
  | [d1, d2] => { results := [.lit (.bool false)], args := [d1, d2] }
  | _ => none }
def ManNilWrongFalsely : Prop := manNilRow.holds Try.pinned (OpenSpec.ofChange manNilWrong)

/-- 'fasciclelaw11.ManKeeps': WHATEVER THE INPUT: true; the input reads as it did. -/
def manKeepsSpec : ChangeSpec := { name := "manKeeps", fn := fun _ => fun
  | [d] => { results := [.lit (.bool true)], args := [d] }
  | _ => none }
def manKeepsRow : OpenClaim := { program := "ytgmobpngcilgjaa", sum := "6069742d77866994534a4d1e02ec0a96587b79d2fe2f06820b4205d658461e4f", func := "fascicle/fasciclelaw11.ManKeeps", spec := "manKeeps", inPlace := ["internal/abi.NoEscape", "maps.clone"], unfollowed := true, recurses := true, apart := false }
def ManKeepsSaid : Prop := manKeepsRow.holds Try.pinned (OpenSpec.ofChange manKeepsSpec)

/-- ITS FALSE NEIGHBOUR: 'it returns false'. Refute it at one input. -/
def manKeepsWrong : ChangeSpec := { name := "manKeeps", fn := fun _ => fun
  | [d] => { results := [.lit (.bool false)], args := [d] }
  | _ => none }
def ManKeepsWrongFalsely : Prop := manKeepsRow.holds Try.pinned (OpenSpec.ofChange manKeepsWrong)

/-- 'fasciclelaw10.RunNil': WHATEVER THE INPUT: true; the input reads as it did. -/
def runNilSpec : ChangeSpec := { name := "runNil", fn := fun _ => fun
  | [d] => { results := [.lit (.bool true)], args := [d] }
  | _ => none }
def runNilRow : OpenClaim := { program := "ytgmobpngcilgjaa", sum := "6069742d77866994534a4d1e02ec0a96587b79d2fe2f06820b4205d658461e4f", func := "fascicle/fasciclelaw10.RunNil", spec := "runNil", inPlace := ["internal/abi.NoEscape", "maps.clone"], unfollowed := true, recurses := true, apart := false }
def RunNilSaid : Prop := runNilRow.holds Try.pinned (OpenSpec.ofChange runNilSpec)

/-- ITS FALSE NEIGHBOUR: 'it returns false'. Refute it at one input. -/
def runNilWrong : ChangeSpec := { name := "runNil", fn := fun _ => fun
  | [d] => { results := [.lit (.bool false)], args := [d] }
  | _ => none }
def RunNilWrongFalsely : Prop := runNilRow.holds Try.pinned (OpenSpec.ofChange runNilWrong)

/-- 'fasciclelaw10.RunBack': WHATEVER THE INPUT: true; the input reads as it did. -/
def runBackSpec : ChangeSpec := { name := "runBack", fn := fun _ => fun
  | [d1, d2, d3, d4, d5] => { results := [.lit (.bool true)], args := [d1, d2, d3, d4, d5] }
  | _ => none }
def runBackRow : OpenClaim := { program := "ytgmobpngcilgjaa", sum := "6069742d77866994534a4d1e02ec0a96587b79d2fe2f06820b4205d658461e4f", func := "fascicle/fasciclelaw10.RunBack", spec := "runBack", inPlace := ["internal/abi.NoEscape", "maps.clone"], unfollowed := true, recurses := true, apart := false }
def RunBackSaid : Prop := runBackRow.holds Try.pinned (OpenSpec.ofChange runBackSpec)

/-- ITS FALSE NEIGHBOUR: 'it returns false'. Refute it at one input. -/
def runBackWrong : ChangeSpec := { name := "runBack", fn := fun _ => fun
  | [d1, d2, d3, d4, d5] => { results := [.lit (.bool false)], args := [d1, d2, d3, d4, d5] }
  | _ => none }
def RunBackWrongFalsely : Prop := runBackRow.holds Try.pinned (OpenSpec.ofChange runBackWrong)

/-- 'fasciclelaw10.RunSpoilt': WHATEVER THE INPUT: true; the input reads as it did. -/
def runSpoiltSpec : ChangeSpec := { name := "runSpoilt", fn := fun _ => fun
  | [d1, d2, d3] => { results := [.lit (.bool true)], args := [d1, d2, d3] }
  | _ => none }
def runSpoiltRow : OpenClaim := { program := "ytgmobpngcilgjaa", sum := "6069742d77866994534a4d1e02ec0a96587b79d2fe2f06820b4205d658461e4f", func := "fascicle/fasciclelaw10.RunSpoilt", spec := "runSpoilt", inPlace := ["internal/abi.NoEscape", "maps.clone"], unfollowed := true, recurses := true, apart := false }
def RunSpoiltSaid : Prop := runSpoiltRow.holds Try.pinned (OpenSpec.ofChange runSpoiltSpec)

/-- ITS FALSE NEIGHBOUR: 'it returns false'. Refute it at one input. -/
def runSpoiltWrong : ChangeSpec := { name := "runSpoilt", fn := fun _ => fun
  | [d1, d2, d3] => { results := [.lit (.bool false)], args := [d1, d2, d3] }
  | _ => none }
def RunSpoiltWrongFalsely : Prop := runSpoiltRow.holds Try.pinned (OpenSpec.ofChange runSpoiltWrong)

/-- 'fasciclelaw02.DiskCrash': WHATEVER THE INPUT: true; the input reads as it did. -/
def diskCrashSpec : ChangeSpec := { name := "diskCrash", fn := fun _ => fun
  | [d1, d2, d3, d4] => { results := [.lit (.bool true)], args := [d1, d2, d3, d4] }
  | _ => none }
def diskCrashRow : OpenClaim := { program := "ytgmobpngcilgjaa", sum := "6069742d77866994534a4d1e02ec0a96587b79d2fe2f06820b4205d658461e4f", func := "fascicle/fasciclelaw02.DiskCrash", spec := "diskCrash", inPlace := ["maps.clone"], unfollowed := true, recurses := true, apart := false }
def DiskCrashSaid : Prop := diskCrashRow.holds Try.pinned (OpenSpec.ofChange diskCrashSpec)

/-- ITS FALSE NEIGHBOUR: 'it returns false'. Refute it at one input. -/
def diskCrashWrong : ChangeSpec := { name := "diskCrash", fn := fun _ => fun
  | [d1, d2, d3, d4] => { results := [.lit (.bool false)], args := [d1, d2, d3, d4] }
  | _ => none }
def DiskCrashWrongFalsely : Prop := diskCrashRow.holds Try.pinned (OpenSpec.ofChange diskCrashWrong)

/-- 'fasciclelaw02.DiskNil': WHATEVER THE INPUT: true; the input reads as it did. -/
def diskNilSpec : ChangeSpec := { name := "diskNil", fn := fun _ => fun
  | [d] => { results := [.lit (.bool true)], args := [d] }
  | _ => none }
def diskNilRow : OpenClaim := { program := "ytgmobpngcilgjaa", sum := "6069742d77866994534a4d1e02ec0a96587b79d2fe2f06820b4205d658461e4f", func := "fascicle/fasciclelaw02.DiskNil", spec := "diskNil", inPlace := ["maps.clone"], unfollowed := true, recurses := true, apart := false }
def DiskNilSaid : Prop := diskNilRow.holds Try.pinned (OpenSpec.ofChange diskNilSpec)

/-- ITS FALSE NEIGHBOUR: 'it returns false'. Refute it at one input. -/
def diskNilWrong : ChangeSpec := { name := "diskNil", fn := fun _ => fun
  | [d] => { results := [.lit (.bool false)], args := [d] }
  | _ => none }
def DiskNilWrongFalsely : Prop := diskNilRow.holds Try.pinned (OpenSpec.ofChange diskNilWrong)

/- THE SECOND FORM. 'bulk': how many values and letters a reading holds, each counted each time it is reached (what is shared counts as often as it is met; a slice's spare places count too). A statement '..UptoSaid' is the law's where the arguments, and the package variables that the reading takes, are together of bulk at most 1048576: NARROWER than '..Said'. Prove '..Said' where nothing that the law and all that it calls make is longer than what came in: it says more and counts as full. Else prove '..UptoSaid'. A law counts once. -/
mutual
def uptoBulk {H : Type} : DataW H → Nat
  | .lit (.string bytes) => bytes.length + 1
  | .lit _ => 1
  | .nil => 1
  | .ptr d => uptoBulk d + 1
  | .slice elems spare => uptoBulkAll elems + uptoBulkAll spare + 1
  | .agg parts => uptoBulkAll parts + 1
  | .iface _ d => uptoBulk d + 1
  | .map entries => uptoBulkEntries entries + 1
  | .held _ => 1
def uptoBulkAll {H : Type} : List (DataW H) → Nat
  | [] => 0
  | d :: r => uptoBulk d + uptoBulkAll r
def uptoBulkEntries {H : Type} : List (Lit × DataW H) → Nat
  | [] => 0
  | x :: r => uptoBulkEntry x + uptoBulkEntries r
def uptoBulkEntry {H : Type} : Lit × DataW H → Nat
  | (.string bytes, d) => bytes.length + uptoBulk d + 1
  | (_, d) => uptoBulk d + 1
 end
def uptoSmall : (H : Type) → List (DataW H) → Bool := fun _ ds => decide (uptoBulkAll ds ≤ 1048576)
def OpenSpec.upto (s : _root_.Go.ChangeSpec) : _root_.Go.OpenSpec := { _root_.Go.OpenSpec.ofChange s with cond := some uptoSmall }

/-- 'fasciclelaw09.MemNil', WHERE WHAT IT READS IS OF BULK AT MOST 1048576: true; the input reads as it did. -/
def memNilUptoRow : OpenClaim := { program := "ytgmobpngcilgjaa", sum := "6069742d77866994534a4d1e02ec0a96587b79d2fe2f06820b4205d658461e4f", func := "fascicle/fasciclelaw09.MemNil", spec := "memNil", unfollowed := true, recurses := true, apart := false, narrowed := true }
def MemNilUptoSaid : Prop := memNilUptoRow.holds Try.pinned (OpenSpec.upto memNilSpec)

/-- 'fasciclelaw02.DiskStill', WHERE WHAT IT READS IS OF BULK AT MOST 1048576: true; the input reads as it did. -/
def diskStillUptoRow : OpenClaim := { program := "ytgmobpngcilgjaa", sum := "6069742d77866994534a4d1e02ec0a96587b79d2fe2f06820b4205d658461e4f", func := "fascicle/fasciclelaw02.DiskStill", spec := "diskStill", inPlace := ["maps.clone"], unfollowed := true, recurses := true, apart := false, narrowed := true }
def DiskStillUptoSaid : Prop := diskStillUptoRow.holds Try.pinned (OpenSpec.upto diskStillSpec)

/-- 'fasciclelaw08.WalCrash', WHERE WHAT IT READS IS OF BULK AT MOST 1048576: true; the input reads as it did. -/
def walCrashUptoRow : OpenClaim := { program := "ytgmobpngcilgjaa", sum := "6069742d77866994534a4d1e02ec0a96587b79d2fe2f06820b4205d658461e4f", func := "fascicle/fasciclelaw08.WalCrash", spec := "walCrash", inPlace := ["maps.clone", "internal/abi.NoEscape"], unfollowed := true, recurses := true, apart := false, narrowed := true }
def WalCrashUptoSaid : Prop := walCrashUptoRow.holds Try.pinned (OpenSpec.upto walCrashSpec)

/-- 'fasciclelaw11.ManTells', WHERE WHAT IT READS IS OF BULK AT MOST 1048576: true; the input reads as it did. -/
def manTellsUptoRow : OpenClaim := { program := "ytgmobpngcilgjaa", sum := "6069742d77866994534a4d1e02ec0a96587b79d2fe2f06820b4205d658461e4f", func := "fascicle/fasciclelaw11.ManTells", spec := "manTells", inPlace := ["internal/abi.NoEscape", "maps.clone"], unfollowed := true, recurses := true, apart := false, narrowed := true }
def ManTellsUptoSaid : Prop := manTellsUptoRow.holds Try.pinned (OpenSpec.upto manTellsSpec)

/-- 'fasciclelaw11.ManNil', WHERE WHAT IT READS IS OF BULK AT MOST 1048576: true; the input reads as it did. -/
def manNilUptoRow : OpenClaim := { program := "ytgmobpngcilgjaa", sum := "6069742d77866994534a4d1e02ec0a96587b79d2fe2f06820b4205d658461e4f", func := "fascicle/fasciclelaw11.ManNil", spec := "manNil", inPlace := ["internal/abi.NoEscape", "maps.clone"], unfollowed := true, recurses := true, apart := false, narrowed := true }
def ManNilUptoSaid : Prop := manNilUptoRow.holds Try.pinned (OpenSpec.upto manNilSpec)

/-- 'fasciclelaw11.ManKeeps', WHERE WHAT IT READS IS OF BULK AT MOST 1048576: true; the input reads as it did. -/
def manKeepsUptoRow : OpenClaim := { program := "ytgmobpngcilgjaa", sum := "6069742d77866994534a4d1e02ec0a96587b79d2fe2f06820b4205d658461e4f", func := "fascicle/fasciclelaw11.ManKeeps", spec := "manKeeps", inPlace := ["internal/abi.NoEscape", "maps.clone"], unfollowed := true, recurses := true, apart := false, narrowed := true }
def ManKeepsUptoSaid : Prop := manKeepsUptoRow.holds Try.pinned (OpenSpec.upto manKeepsSpec)

/-- 'fasciclelaw10.RunNil', WHERE WHAT IT READS IS OF BULK AT MOST 1048576: true; the input reads as it did. -/
def runNilUptoRow : OpenClaim := { program := "ytgmobpngcilgjaa", sum := "6069742d77866994534a4d1e02ec0a96587b79d2fe2f06820b4205d658461e4f", func := "fascicle/fasciclelaw10.RunNil", spec := "runNil", inPlace := ["internal/abi.NoEscape", "maps.clone"], unfollowed := true, recurses := true, apart := false, narrowed := true }
def RunNilUptoSaid : Prop := runNilUptoRow.holds Try.pinned (OpenSpec.upto runNilSpec)

/-- 'fasciclelaw10.RunBack', WHERE WHAT IT READS IS OF BULK AT MOST 1048576: true; the input reads as it did. -/
def runBackUptoRow : OpenClaim := { program := "ytgmobpngcilgjaa", sum := "6069742d77866994534a4d1e02ec0a96587b79d2fe2f06820b4205d658461e4f", func := "fascicle/fasciclelaw10.RunBack", spec := "runBack", inPlace := ["internal/abi.NoEscape", "maps.clone"], unfollowed := true, recurses := true, apart := false, narrowed := true }
def RunBackUptoSaid : Prop := runBackUptoRow.holds Try.pinned (OpenSpec.upto runBackSpec)

/-- 'fasciclelaw10.RunSpoilt', WHERE WHAT IT READS IS OF BULK AT MOST 1048576: true; the input reads as it did. -/
def runSpoiltUptoRow : OpenClaim := { program := "ytgmobpngcilgjaa", sum := "6069742d77866994534a4d1e02ec0a96587b79d2fe2f06820b4205d658461e4f", func := "fascicle/fasciclelaw10.RunSpoilt", spec := "runSpoilt", inPlace := ["internal/abi.NoEscape", "maps.clone"], unfollowed := true, recurses := true, apart := false, narrowed := true }
def RunSpoiltUptoSaid : Prop := runSpoiltUptoRow.holds Try.pinned (OpenSpec.upto runSpoiltSpec)

/-- 'fasciclelaw02.DiskCrash', WHERE WHAT IT READS IS OF BULK AT MOST 1048576: true; the input reads as it did. -/
def diskCrashUptoRow : OpenClaim := { program := "ytgmobpngcilgjaa", sum := "6069742d77866994534a4d1e02ec0a96587b79d2fe2f06820b4205d658461e4f", func := "fascicle/fasciclelaw02.DiskCrash", spec := "diskCrash", inPlace := ["maps.clone"], unfollowed := true, recurses := true, apart := false, narrowed := true }
def DiskCrashUptoSaid : Prop := diskCrashUptoRow.holds Try.pinned (OpenSpec.upto diskCrashSpec)

/-- 'fasciclelaw02.DiskNil', WHERE WHAT IT READS IS OF BULK AT MOST 1048576: true; the input reads as it did. -/
def diskNilUptoRow : OpenClaim := { program := "ytgmobpngcilgjaa", sum := "6069742d77866994534a4d1e02ec0a96587b79d2fe2f06820b4205d658461e4f", func := "fascicle/fasciclelaw02.DiskNil", spec := "diskNil", inPlace := ["maps.clone"], unfollowed := true, recurses := true, apart := false, narrowed := true }
def DiskNilUptoSaid : Prop := diskNilUptoRow.holds Try.pinned (OpenSpec.upto diskNilSpec)

end Rows
end Go.Proofs.Ytgmobpngcilgjaa
