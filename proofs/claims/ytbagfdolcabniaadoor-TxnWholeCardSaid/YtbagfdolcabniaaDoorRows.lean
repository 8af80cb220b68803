/-
  NARROWER THAN 'FOR EVERY INPUT', by the rows' own cells (each row's printed sentence says how): RelKeeps: laid · TxnGets: laid · StreamOuts: laid · TxnNil: laid · StreamBack: laid · RelNil: laid · TxnWhole: laid.
  DERIVED. THE GIVEN ROWS OF THIS SEAT. 7 by the template 'for every input the law returns true; each argument reads behind the call as it read before'; 0 by the template 'total and deterministic' (their statements: YtbagfdolcabniaaDoorTotals.lean).
  GIVEN WITH THE SEED: the statements are not yours to turn. If you find one false, say at which input.
  Laid BY PROGRAM, IN A SANDBOX (cutbox-rows.mjs): the forced cells as the released guide's own fill.sh prints them over the translation cc7c1ed9be2f511f… (all of the seat's roots in one cut). By AI agents, Wed Nov 11 2026. No macro, syntax, notation, axiom, sorry.
-/
import Derived.Test.YtbagfdolcabniaaDoorChecked
import GoSem.PinnedTables
import GoSem.Claim
import GoSem.ClaimJoined
import GoSem.ClaimMapViews
import Derived.JoinedTies
import Derived.KernelRfl
namespace Go.Proofs.YtbagfdolcabniaaDoor
/- THE CELL 'sum', in the pinned program and in every row, IS THE sha256 OF THE DUMP (.gsa) THAT YtbagfdolcabniaaDoorProg.lean LOADS. Nothing in Lean hashes anything: it is a label: what it is worth is what the hold of that sum in a sandbox is worth. -/
noncomputable def Tryd.pinned : Pinned := { name := "ytbagfdolcabniaadoor", sum := "cc7c1ed9be2f511fa1b038bb2cf09d17627f1ebc91005befd6d6d71fbec1ac80", checked := Tryd.checked }
namespace Rows
def none {H : Type} : Left H := { results := [], args := [] }

/- WHAT THE LISTED PACKAGE-LEVEL VARIABLES READ AS WHEN THE CALL BEGINS. Each datum BY PROGRAM (the guide's laid-datum.mjs) off the statement by which the dump's own 'gosem.cut.vars' lays the variable. In a bare row this is a premise. The card (YtbagfdolcabniaaDoorCards.lean) ties it to the program's text. -/
def laid_unicode_utf8_acceptRanges {H : Type} : DataW H := .agg [.agg [.lit (.int .u8 128), .lit (.int .u8 191)], .agg [.lit (.int .u8 160), .lit (.int .u8 191)], .agg [.lit (.int .u8 128), .lit (.int .u8 159)], .agg [.lit (.int .u8 144), .lit (.int .u8 191)], .agg [.lit (.int .u8 128), .lit (.int .u8 143)], .agg [.lit (.int .u8 0), .lit (.int .u8 0)], .agg [.lit (.int .u8 0), .lit (.int .u8 0)], .agg [.lit (.int .u8 0), .lit (.int .u8 0)], .agg [.lit (.int .u8 0), .lit (.int .u8 0)], .agg [.lit (.int .u8 0), .lit (.int .u8 0)], .agg [.lit (.int .u8 0), .lit (.int .u8 0)], .agg [.lit (.int .u8 0), .lit (.int .u8 0)], .agg [.lit (.int .u8 0), .lit (.int .u8 0)], .agg [.lit (.int .u8 0), .lit (.int .u8 0)], .agg [.lit (.int .u8 0), .lit (.int .u8 0)], .agg [.lit (.int .u8 0), .lit (.int .u8 0)]]
/-- One of Go's own tables, pinned by name: the form's constant. -/
def laid_unicode_utf8_first : DataW Unit := Go.Pinned.utf8First

/-- 'fasciclelaw14.RelKeeps': WHATEVER THE INPUT: true; the input reads as it did. -/
def relKeepsSpec : ChangeSpec := { name := "relKeeps", fn := fun _ => fun
  | [d1, d2, d3, d4, d5] => { results := [.lit (.bool true)], args := [d1, d2, d3, d4, d5] }
  | _ => none }
def relKeepsRow : OpenClaim := { program := "ytbagfdolcabniaadoor", sum := "cc7c1ed9be2f511fa1b038bb2cf09d17627f1ebc91005befd6d6d71fbec1ac80", func := "fascicle/fasciclelaw14.RelKeeps", spec := "relKeeps", inPlace := ["math.Float64frombits"], unfollowed := true, recurses := true, named := ["unicode/utf8.first", "unicode/utf8.acceptRanges"], plainKeys := false, apart := false, laid := [("unicode/utf8.acceptRanges", laid_unicode_utf8_acceptRanges), ("unicode/utf8.first", laid_unicode_utf8_first)] }
def RelKeepsSaid : Prop := relKeepsRow.holds Tryd.pinned (OpenSpec.ofChange relKeepsSpec)

/-- ITS FALSE NEIGHBOUR: 'it returns false'. Refute it at one input. -/
def relKeepsWrong : ChangeSpec := { name := "relKeeps", fn := fun _ => fun
  | [d1, d2, d3, d4, d5] => { results := [.lit (.bool false)], args := [d1, d2, d3, d4, d5] }
  | _ => none }
def RelKeepsWrongFalsely : Prop := relKeepsRow.holds Tryd.pinned (OpenSpec.ofChange relKeepsWrong)

/-- 'fasciclelaw15.TxnGets': WHATEVER THE INPUT: true; the input reads as it did. -/
def txnGetsSpec : ChangeSpec := { name := "txnGets", fn := fun _ => fun
  | [d1, d2, d3, d4, d5] => { results := [.lit (.bool true)], args := [d1, d2, d3, d4, d5] }
  | _ => none }
def txnGetsRow : OpenClaim := { program := "ytbagfdolcabniaadoor", sum := "cc7c1ed9be2f511fa1b038bb2cf09d17627f1ebc91005befd6d6d71fbec1ac80", func := "fascicle/fasciclelaw15.TxnGets", spec := "txnGets", inPlace := ["maps.clone", "math.Float64frombits"], unfollowed := true, recurses := true, named := ["unicode/utf8.first", "unicode/utf8.acceptRanges"], plainKeys := false, apart := false, laid := [("unicode/utf8.acceptRanges", laid_unicode_utf8_acceptRanges), ("unicode/utf8.first", laid_unicode_utf8_first)] }
def TxnGetsSaid : Prop := txnGetsRow.holds Tryd.pinned (OpenSpec.ofChange txnGetsSpec)

/-- ITS FALSE NEIGHBOUR: 'it returns false'. Refute it at one input. -/
def txnGetsWrong : ChangeSpec := { name := "txnGets", fn := fun _ => fun
  | [d1, d2, d3, d4, d5] => { results := [.lit (.bool false)], args := [d1, d2, d3, d4, d5] }
  | _ => none }
def TxnGetsWrongFalsely : Prop := txnGetsRow.holds Tryd.pinned (OpenSpec.ofChange txnGetsWrong)

/-- 'fasciclelaw20.StreamOuts': WHATEVER THE INPUT: true; the input reads as it did. -/
def streamOutsSpec : ChangeSpec := { name := "streamOuts", fn := fun _ => fun
  | [d1, d2, d3, d4] => { results := [.lit (.bool true)], args := [d1, d2, d3, d4] }
  | _ => none }
def streamOutsRow : OpenClaim := { program := "ytbagfdolcabniaadoor", sum := "cc7c1ed9be2f511fa1b038bb2cf09d17627f1ebc91005befd6d6d71fbec1ac80", func := "fascicle/fasciclelaw20.StreamOuts", spec := "streamOuts", inPlace := ["math.Float64frombits"], unfollowed := true, recurses := true, named := ["unicode/utf8.first", "unicode/utf8.acceptRanges"], plainKeys := false, apart := false, laid := [("unicode/utf8.acceptRanges", laid_unicode_utf8_acceptRanges), ("unicode/utf8.first", laid_unicode_utf8_first)] }
def StreamOutsSaid : Prop := streamOutsRow.holds Tryd.pinned (OpenSpec.ofChange streamOutsSpec)

/-- ITS FALSE NEIGHBOUR: 'it returns false'. Refute it at one input. -/
def streamOutsWrong : ChangeSpec := { name := "streamOuts", fn := fun _ => fun
  | [d1, d2, d3, d4] => { results := [.lit (.bool false)], args := [d1, d2, d3, d4] }
  | _ => none }
def StreamOutsWrongFalsely : Prop := streamOutsRow.holds Tryd.pinned (OpenSpec.ofChange streamOutsWrong)

/-- 'fasciclelaw15.TxnNil': WHATEVER THE INPUT: true; the input reads as it did. -/
def txnNilSpec : ChangeSpec := { name := "txnNil", fn := fun _ => fun
  | [d1, d2, d3] => { results := [.lit (.bool true)], args := [d1, d2, d3] }
  | _ => none }
def txnNilRow : OpenClaim := { program := "ytbagfdolcabniaadoor", sum := "cc7c1ed9be2f511fa1b038bb2cf09d17627f1ebc91005befd6d6d71fbec1ac80", func := "fascicle/fasciclelaw15.TxnNil", spec := "txnNil", inPlace := ["maps.clone", "math.Float64frombits"], unfollowed := true, recurses := true, named := ["unicode/utf8.first", "unicode/utf8.acceptRanges"], plainKeys := false, apart := false, laid := [("unicode/utf8.acceptRanges", laid_unicode_utf8_acceptRanges), ("unicode/utf8.first", laid_unicode_utf8_first)] }
def TxnNilSaid : Prop := txnNilRow.holds Tryd.pinned (OpenSpec.ofChange txnNilSpec)

/-- ITS FALSE NEIGHBOUR: 'it returns false'. Refute it at one input. -/
def txnNilWrong : ChangeSpec := { name := "txnNil", fn := fun _ => fun
  | [d1, d2, d3] => { results := [.lit (.bool false)], args := [d1, d2, d3] }
  | _ => none }
def TxnNilWrongFalsely : Prop := txnNilRow.holds Tryd.pinned (OpenSpec.ofChange txnNilWrong)

/-- 'fasciclelaw20.StreamBack': WHATEVER THE INPUT: true; the input reads as it did. -/
def streamBackSpec : ChangeSpec := { name := "streamBack", fn := fun _ => fun
  | [d1, d2, d3, d4] => { results := [.lit (.bool true)], args := [d1, d2, d3, d4] }
  | _ => none }
def streamBackRow : OpenClaim := { program := "ytbagfdolcabniaadoor", sum := "cc7c1ed9be2f511fa1b038bb2cf09d17627f1ebc91005befd6d6d71fbec1ac80", func := "fascicle/fasciclelaw20.StreamBack", spec := "streamBack", inPlace := ["math.Float64frombits"], unfollowed := true, recurses := true, named := ["unicode/utf8.first", "unicode/utf8.acceptRanges"], plainKeys := false, apart := false, laid := [("unicode/utf8.acceptRanges", laid_unicode_utf8_acceptRanges), ("unicode/utf8.first", laid_unicode_utf8_first)] }
def StreamBackSaid : Prop := streamBackRow.holds Tryd.pinned (OpenSpec.ofChange streamBackSpec)

/-- ITS FALSE NEIGHBOUR: 'it returns false'. Refute it at one input. -/
def streamBackWrong : ChangeSpec := { name := "streamBack", fn := fun _ => fun
  | [d1, d2, d3, d4] => { results := [.lit (.bool false)], args := [d1, d2, d3, d4] }
  | _ => none }
def StreamBackWrongFalsely : Prop := streamBackRow.holds Tryd.pinned (OpenSpec.ofChange streamBackWrong)

/-- 'fasciclelaw14.RelNil': WHATEVER THE INPUT: true; the input reads as it did. -/
def relNilSpec : ChangeSpec := { name := "relNil", fn := fun _ => fun
  | [d1, d2, d3] => { results := [.lit (.bool true)], args := [d1, d2, d3] }
  | _ => none }
def relNilRow : OpenClaim := { program := "ytbagfdolcabniaadoor", sum := "cc7c1ed9be2f511fa1b038bb2cf09d17627f1ebc91005befd6d6d71fbec1ac80", func := "fascicle/fasciclelaw14.RelNil", spec := "relNil", inPlace := ["math.Float64frombits", "internal/bytealg.abigen_runtime_cmpstring", "maps.clone"], unfollowed := true, recurses := true, named := ["unicode/utf8.first", "unicode/utf8.acceptRanges"], plainKeys := false, apart := false, laid := [("unicode/utf8.acceptRanges", laid_unicode_utf8_acceptRanges), ("unicode/utf8.first", laid_unicode_utf8_first)] }
def RelNilSaid : Prop := relNilRow.holds Tryd.pinned (OpenSpec.ofChange relNilSpec)

/-- ITS FALSE NEIGHBOUR: 'it returns false'. Refute it at one input. -/
def relNilWrong : ChangeSpec := { name := "relNil", fn := fun _ => fun
  | [d1, d2, d3] => { results := [.lit (.bool false)], args := [d1, d2, d3] }
  | _ => none }
def RelNilWrongFalsely : Prop := relNilRow.holds Tryd.pinned (OpenSpec.ofChange relNilWrong)

/-- 'fasciclelaw15.TxnWhole': WHATEVER THE INPUT: true; the input reads as it did. -/
def txnWholeSpec : ChangeSpec := { name := "txnWhole", fn := fun _ => fun
  | [d1, d2, d3] => { results := [.lit (.bool true)], args := [d1, d2, d3] }
  | _ => none }
def txnWholeRow : OpenClaim := { program := "ytbagfdolcabniaadoor", sum := "cc7c1ed9be2f511fa1b038bb2cf09d17627f1ebc91005befd6d6d71fbec1ac80", func := "fascicle/fasciclelaw15.TxnWhole", spec := "txnWhole", inPlace := ["maps.clone", "math.Float64frombits", "internal/bytealg.abigen_runtime_cmpstring"], unfollowed := true, recurses := true, named := ["unicode/utf8.first", "unicode/utf8.acceptRanges"], plainKeys := false, apart := false, laid := [("unicode/utf8.acceptRanges", laid_unicode_utf8_acceptRanges), ("unicode/utf8.first", laid_unicode_utf8_first)] }
def TxnWholeSaid : Prop := txnWholeRow.holds Tryd.pinned (OpenSpec.ofChange txnWholeSpec)

/-- ITS FALSE NEIGHBOUR: 'it returns false'. Refute it at one input. -/
def txnWholeWrong : ChangeSpec := { name := "txnWhole", fn := fun _ => fun
  | [d1, d2, d3] => { results := [.lit (.bool false)], args := [d1, d2, d3] }
  | _ => none }
def TxnWholeWrongFalsely : Prop := txnWholeRow.holds Tryd.pinned (OpenSpec.ofChange txnWholeWrong)

/- THE SECOND FORM. 'bulk': how many values and letters a reading holds, each counted each time it is reached (what is shared counts as often as it is met; a slice's spare places count too). A statement '..UptoSaid' is the law's where the arguments, and the package variables that the reading takes, are together of bulk at most 1048576: NARROWER than '..Said'. Prove '..Said' where nothing that the law and all that it calls make is longer than what came in: it says more and counts as full. Else prove '..UptoSaid'. A law counts once. -/
mutual
def uptoBulk {H : Type} : DataW H → Nat
  | .lit (.string bytes) => bytes.length + 1
  | .lit _ => 1
  | .nil => 1
  | .ptr d => uptoBulk d + 1
  | .slice elems spare => uptoBulkAll elems + uptoBulkAll spare + 1
  | .agg parts => uptoBulkAll parts + 1
  | .iface _ d => uptoBulk d + 1
  | .map entries => uptoBulkEntries entries + 1
  | .held _ => 1
def uptoBulkAll {H : Type} : List (DataW H) → Nat
  | [] => 0
  | d :: r => uptoBulk d + uptoBulkAll r
def uptoBulkEntries {H : Type} : List (Lit × DataW H) → Nat
  | [] => 0
  | x :: r => uptoBulkEntry x + uptoBulkEntries r
def uptoBulkEntry {H : Type} : Lit × DataW H → Nat
  | (.string bytes, d) => bytes.length + uptoBulk d + 1
  | (_, d) => uptoBulk d + 1
 end
def uptoSmall : (H : Type) → List (DataW H) → Bool := fun _ ds => decide (uptoBulkAll ds ≤ 1048576)
def OpenSpec.upto (s : _root_.Go.ChangeSpec) : _root_.Go.OpenSpec := { _root_.Go.OpenSpec.ofChange s with cond := some uptoSmall }

/-- 'fasciclelaw14.RelKeeps', WHERE WHAT IT READS IS OF BULK AT MOST 1048576: true; the input reads as it did. -/
def relKeepsUptoRow : OpenClaim := { program := "ytbagfdolcabniaadoor", sum := "cc7c1ed9be2f511fa1b038bb2cf09d17627f1ebc91005befd6d6d71fbec1ac80", func := "fascicle/fasciclelaw14.RelKeeps", spec := "relKeeps", inPlace := ["math.Float64frombits"], unfollowed := true, recurses := true, named := ["unicode/utf8.first", "unicode/utf8.acceptRanges"], plainKeys := false, apart := false, laid := [("unicode/utf8.acceptRanges", laid_unicode_utf8_acceptRanges), ("unicode/utf8.first", laid_unicode_utf8_first)], narrowed := true }
def RelKeepsUptoSaid : Prop := relKeepsUptoRow.holds Tryd.pinned (OpenSpec.upto relKeepsSpec)

/-- 'fasciclelaw15.TxnGets', WHERE WHAT IT READS IS OF BULK AT MOST 1048576: true; the input reads as it did. -/
def txnGetsUptoRow : OpenClaim := { program := "ytbagfdolcabniaadoor", sum := "cc7c1ed9be2f511fa1b038bb2cf09d17627f1ebc91005befd6d6d71fbec1ac80", func := "fascicle/fasciclelaw15.TxnGets", spec := "txnGets", inPlace := ["maps.clone", "math.Float64frombits"], unfollowed := true, recurses := true, named := ["unicode/utf8.first", "unicode/utf8.acceptRanges"], plainKeys := false, apart := false, laid := [("unicode/utf8.acceptRanges", laid_unicode_utf8_acceptRanges), ("unicode/utf8.first", laid_unicode_utf8_first)], narrowed := true }
def TxnGetsUptoSaid : Prop := txnGetsUptoRow.holds Tryd.pinned (OpenSpec.upto txnGetsSpec)

/-- 'fasciclelaw20.StreamOuts', WHERE WHAT IT READS IS OF BULK AT MOST 1048576: true; the input reads as it did. -/
def streamOutsUptoRow : OpenClaim := { program := "ytbagfdolcabniaadoor", sum := "cc7c1ed9be2f511fa1b038bb2cf09d17627f1ebc91005befd6d6d71fbec1ac80", func := "fascicle/fasciclelaw20.StreamOuts", spec := "streamOuts", inPlace := ["math.Float64frombits"], unfollowed := true, recurses := true, named := ["unicode/utf8.first", "unicode/utf8.acceptRanges"], plainKeys := false, apart := false, laid := [("unicode/utf8.acceptRanges", laid_unicode_utf8_acceptRanges), ("unicode/utf8.first", laid_unicode_utf8_first)], narrowed := true }
def StreamOutsUptoSaid : Prop := streamOutsUptoRow.holds Tryd.pinned (OpenSpec.upto streamOutsSpec)

/-- 'fasciclelaw15.TxnNil', WHERE WHAT IT READS IS OF BULK AT MOST 1048576: true; the input reads as it did. -/
def txnNilUptoRow : OpenClaim := { program := "ytbagfdolcabniaadoor", sum := "cc7c1ed9be2f511fa1b038bb2cf09d17627f1ebc91005befd6d6d71fbec1ac80", func := "fascicle/fasciclelaw15.TxnNil", spec := "txnNil", inPlace := ["maps.clone", "math.Float64frombits"], unfollowed := true, recurses := true, named := ["unicode/utf8.first", "unicode/utf8.acceptRanges"], plainKeys := false, apart := false, laid := [("unicode/utf8.acceptRanges", laid_unicode_utf8_acceptRanges), ("unicode/utf8.first", laid_unicode_utf8_first)], narrowed := true }
def TxnNilUptoSaid : Prop := txnNilUptoRow.holds Tryd.pinned (OpenSpec.upto txnNilSpec)

/-- 'fasciclelaw20.StreamBack', WHERE WHAT IT READS IS OF BULK AT MOST 1048576: true; the input reads as it did. -/
def streamBackUptoRow : OpenClaim := { program := "ytbagfdolcabniaadoor", sum := "cc7c1ed9be2f511fa1b038bb2cf09d17627f1ebc91005befd6d6d71fbec1ac80", func := "fascicle/fasciclelaw20.StreamBack", spec := "streamBack", inPlace := ["math.Float64frombits"], unfollowed := true, recurses := true, named := ["unicode/utf8.first", "unicode/utf8.acceptRanges"], plainKeys := false, apart := false, laid := [("unicode/utf8.acceptRanges", laid_unicode_utf8_acceptRanges), ("unicode/utf8.first", laid_unicode_utf8_first)], narrowed := true }
def StreamBackUptoSaid : Prop := streamBackUptoRow.holds Tryd.pinned (OpenSpec.upto streamBackSpec)

/-- 'fasciclelaw14.RelNil', WHERE WHAT IT READS IS OF BULK AT MOST 1048576: true; the input reads as it did. -/
def relNilUptoRow : OpenClaim := { program := "ytbagfdolcabniaadoor", sum := "cc7c1ed9be2f511fa1b038bb2cf09d17627f1ebc91005befd6d6d71fbec1ac80", func := "fascicle/fasciclelaw14.RelNil", spec := "relNil", inPlace := ["math.Float64frombits", "internal/bytealg.abigen_runtime_cmpstring", "maps.clone"], unfollowed := true, recurses := true, named := ["unicode/utf8.first", "unicode/utf8.acceptRanges"], plainKeys := false, apart := false, laid := [("unicode/utf8.acceptRanges", laid_unicode_utf8_acceptRanges), ("unicode/utf8.first", laid_unicode_utf8_first)], narrowed := true }
def RelNilUptoSaid : Prop := relNilUptoRow.holds Tryd.pinned (OpenSpec.upto relNilSpec)

/-- 'fasciclelaw15.TxnWhole', WHERE WHAT IT READS IS OF BULK AT MOST 1048576: true; the input reads as it did. -/
def txnWholeUptoRow : OpenClaim := { program := "ytbagfdolcabniaadoor", sum := "cc7c1ed9be2f511fa1b038bb2cf09d17627f1ebc91005befd6d6d71fbec1ac80", func := "fascicle/fasciclelaw15.TxnWhole", spec := "txnWhole", inPlace := ["maps.clone", "math.Float64frombits", "internal/bytealg.abigen_runtime_cmpstring"], unfollowed := true, recurses := true, named := ["unicode/utf8.first", "unicode/utf8.acceptRanges"], plainKeys := false, apart := false, laid := [("unicode/utf8.acceptRanges", laid_unicode_utf8_acceptRanges), ("unicode/utf8.first", laid_unicode_utf8_first)], narrowed := true }
def TxnWholeUptoSaid : Prop := txnWholeUptoRow.holds Tryd.pinned (OpenSpec.upto txnWholeSpec)

end Rows
end Go.Proofs.YtbagfdolcabniaaDoor
