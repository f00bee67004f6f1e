/-
  NARROWER THAN 'FOR EVERY INPUT', by the rows' own cells (each row's printed sentence says how): ArgsSplits: laid · ArgsBatches: laid · ArgsReplaces: laid · ArgsWhole: laid · ArgsEnvs: laid · ArgsNone: laid.
  DERIVED. THE GIVEN ROWS OF THIS SEAT. 6 by the template 'for every input the law returns true; each argument reads behind the call as it read before'; 0 by the template 'total and deterministic' (their statements: YtcblodlmddeamaaDoorTotals.lean).
  GIVEN WITH THE SEED: the statements are not yours to turn. If you find one false, say at which input.
  Laid BY PROGRAM, IN A SANDBOX (cutbox-rows.mjs): the forced cells as the released guide's own fill.sh prints them over the translation 03c9962a78347508… (all of the seat's roots in one cut). By AI agents, Wed Nov 11 2026. No macro, syntax, notation, axiom, sorry.
-/
import Derived.Test.YtcblodlmddeamaaDoorChecked
import GoSem.PinnedTables
import GoSem.Claim
import GoSem.ClaimJoined
import GoSem.ClaimMapViews
import Derived.JoinedTies
import Derived.KernelRfl
namespace Go.Proofs.YtcblodlmddeamaaDoor
/- THE CELL 'sum', in the pinned program and in every row, IS THE sha256 OF THE DUMP (.gsa) THAT YtcblodlmddeamaaDoorProg.lean LOADS. Nothing in Lean hashes anything: it is a label: what it is worth is what the hold of that sum in a sandbox is worth. -/
noncomputable def Tryd.pinned : Pinned := { name := "ytcblodlmddeamaadoor", sum := "03c9962a78347508b447378f328226b1a626c76b1c7a5cf5622e0ba9d42e79ef", checked := Tryd.checked }
namespace Rows
def none {H : Type} : Left H := { results := [], args := [] }

/- WHAT THE LISTED PACKAGE-LEVEL VARIABLES READ AS WHEN THE CALL BEGINS. Each datum BY PROGRAM (the guide's laid-datum.mjs) off the statement by which the dump's own 'gosem.cut.vars' lays the variable. In a bare row this is a premise. The card (YtcblodlmddeamaaDoorCards.lean) ties it to the program's text. -/
def laid_unicode_utf8_acceptRanges {H : Type} : DataW H := .agg [.agg [.lit (.int .u8 128), .lit (.int .u8 191)], .agg [.lit (.int .u8 160), .lit (.int .u8 191)], .agg [.lit (.int .u8 128), .lit (.int .u8 159)], .agg [.lit (.int .u8 144), .lit (.int .u8 191)], .agg [.lit (.int .u8 128), .lit (.int .u8 143)], .agg [.lit (.int .u8 0), .lit (.int .u8 0)], .agg [.lit (.int .u8 0), .lit (.int .u8 0)], .agg [.lit (.int .u8 0), .lit (.int .u8 0)], .agg [.lit (.int .u8 0), .lit (.int .u8 0)], .agg [.lit (.int .u8 0), .lit (.int .u8 0)], .agg [.lit (.int .u8 0), .lit (.int .u8 0)], .agg [.lit (.int .u8 0), .lit (.int .u8 0)], .agg [.lit (.int .u8 0), .lit (.int .u8 0)], .agg [.lit (.int .u8 0), .lit (.int .u8 0)], .agg [.lit (.int .u8 0), .lit (.int .u8 0)], .agg [.lit (.int .u8 0), .lit (.int .u8 0)]]
/-- One of Go's own tables, pinned by name: the form's constant. -/
def laid_unicode_utf8_first : DataW Unit := Go.Pinned.utf8First

/-- 'tinsellaw22.ArgsSplits': WHATEVER THE INPUT: true; the input reads as it did. -/
def argsSplitsSpec : ChangeSpec := { name := "argsSplits", fn := fun _ => fun
  | [d1, d2] => { results := [.lit (.bool true)], args := [d1, d2] }
  | _ => none }
def argsSplitsRow : OpenClaim := { program := "ytcblodlmddeamaadoor", sum := "03c9962a78347508b447378f328226b1a626c76b1c7a5cf5622e0ba9d42e79ef", func := "tinsel/tinsellaw22.ArgsSplits", spec := "argsSplits", inPlace := ["internal/bytealg.CountString", "internal/bytealg.IndexByteString", "internal/bytealg.IndexString"], named := ["unicode/utf8.first", "unicode/utf8.acceptRanges", "internal/bytealg.MaxLen"], apart := false, laid := [("unicode/utf8.acceptRanges", laid_unicode_utf8_acceptRanges), ("unicode/utf8.first", laid_unicode_utf8_first)] }
def ArgsSplitsSaid : Prop := argsSplitsRow.holds Tryd.pinned (OpenSpec.ofChange argsSplitsSpec)

/-- ITS FALSE NEIGHBOUR: 'it returns false'. Refute it at one input. -/
def argsSplitsWrong : ChangeSpec := { name := "argsSplits", fn := fun _ => fun
  | [d1, d2] => { results := [.lit (.bool false)], args := [d1, d2] }
  | _ => none }
def ArgsSplitsWrongFalsely : Prop := argsSplitsRow.holds Tryd.pinned (OpenSpec.ofChange argsSplitsWrong)

/-- 'tinsellaw22.ArgsBatches': WHATEVER THE INPUT: true; the input reads as it did. -/
def argsBatchesSpec : ChangeSpec := { name := "argsBatches", fn := fun _ => fun
  | [d1, d2, d3] => { results := [.lit (.bool true)], args := [d1, d2, d3] }
  | _ => none }
def argsBatchesRow : OpenClaim := { program := "ytcblodlmddeamaadoor", sum := "03c9962a78347508b447378f328226b1a626c76b1c7a5cf5622e0ba9d42e79ef", func := "tinsel/tinsellaw22.ArgsBatches", spec := "argsBatches", inPlace := ["internal/bytealg.CountString", "internal/bytealg.IndexByteString", "internal/bytealg.IndexString"], unfollowed := true, recurses := true, named := ["unicode/utf8.first", "unicode/utf8.acceptRanges", "internal/bytealg.MaxLen"], apart := false, laid := [("unicode/utf8.acceptRanges", laid_unicode_utf8_acceptRanges), ("unicode/utf8.first", laid_unicode_utf8_first)] }
def ArgsBatchesSaid : Prop := argsBatchesRow.holds Tryd.pinned (OpenSpec.ofChange argsBatchesSpec)

/-- ITS FALSE NEIGHBOUR: 'it returns false'. Refute it at one input. -/
def argsBatchesWrong : ChangeSpec := { name := "argsBatches", fn := fun _ => fun
  | [d1, d2, d3] => { results := [.lit (.bool false)], args := [d1, d2, d3] }
  | _ => none }
def ArgsBatchesWrongFalsely : Prop := argsBatchesRow.holds Tryd.pinned (OpenSpec.ofChange argsBatchesWrong)

/-- 'tinsellaw22.ArgsReplaces': WHATEVER THE INPUT: true; the input reads as it did. -/
def argsReplacesSpec : ChangeSpec := { name := "argsReplaces", fn := fun _ => fun
  | [d1, d2, d3] => { results := [.lit (.bool true)], args := [d1, d2, d3] }
  | _ => none }
def argsReplacesRow : OpenClaim := { program := "ytcblodlmddeamaadoor", sum := "03c9962a78347508b447378f328226b1a626c76b1c7a5cf5622e0ba9d42e79ef", func := "tinsel/tinsellaw22.ArgsReplaces", spec := "argsReplaces", inPlace := ["internal/bytealg.CountString", "internal/bytealg.IndexByteString", "internal/bytealg.IndexString", "internal/abi.NoEscape", "internal/bytealg.MakeNoZero"], named := ["unicode/utf8.first", "unicode/utf8.acceptRanges", "internal/bytealg.MaxLen"], apart := false, laid := [("unicode/utf8.acceptRanges", laid_unicode_utf8_acceptRanges), ("unicode/utf8.first", laid_unicode_utf8_first)] }
def ArgsReplacesSaid : Prop := argsReplacesRow.holds Tryd.pinned (OpenSpec.ofChange argsReplacesSpec)

/-- ITS FALSE NEIGHBOUR: 'it returns false'. Refute it at one input. -/
def argsReplacesWrong : ChangeSpec := { name := "argsReplaces", fn := fun _ => fun
  | [d1, d2, d3] => { results := [.lit (.bool false)], args := [d1, d2, d3] }
  | _ => none }
def ArgsReplacesWrongFalsely : Prop := argsReplacesRow.holds Tryd.pinned (OpenSpec.ofChange argsReplacesWrong)

/-- 'tinsellaw22.ArgsWhole': WHATEVER THE INPUT: true; the input reads as it did. -/
def argsWholeSpec : ChangeSpec := { name := "argsWhole", fn := fun _ => fun
  | [d1, d2, d3] => { results := [.lit (.bool true)], args := [d1, d2, d3] }
  | _ => none }
def argsWholeRow : OpenClaim := { program := "ytcblodlmddeamaadoor", sum := "03c9962a78347508b447378f328226b1a626c76b1c7a5cf5622e0ba9d42e79ef", func := "tinsel/tinsellaw22.ArgsWhole", spec := "argsWhole", inPlace := ["internal/bytealg.IndexByteString", "internal/bytealg.IndexString", "internal/bytealg.CountString"], unfollowed := true, recurses := true, named := ["internal/bytealg.MaxLen", "unicode/utf8.first", "unicode/utf8.acceptRanges"], apart := false, laid := [("unicode/utf8.acceptRanges", laid_unicode_utf8_acceptRanges), ("unicode/utf8.first", laid_unicode_utf8_first)] }
def ArgsWholeSaid : Prop := argsWholeRow.holds Tryd.pinned (OpenSpec.ofChange argsWholeSpec)

/-- ITS FALSE NEIGHBOUR: 'it returns false'. Refute it at one input. -/
def argsWholeWrong : ChangeSpec := { name := "argsWhole", fn := fun _ => fun
  | [d1, d2, d3] => { results := [.lit (.bool false)], args := [d1, d2, d3] }
  | _ => none }
def ArgsWholeWrongFalsely : Prop := argsWholeRow.holds Tryd.pinned (OpenSpec.ofChange argsWholeWrong)

/-- 'tinsellaw22.ArgsEnvs': WHATEVER THE INPUT: true; the input reads as it did. -/
def argsEnvsSpec : ChangeSpec := { name := "argsEnvs", fn := fun _ => fun
  | [d1, d2, d3] => { results := [.lit (.bool true)], args := [d1, d2, d3] }
  | _ => none }
def argsEnvsRow : OpenClaim := { program := "ytcblodlmddeamaadoor", sum := "03c9962a78347508b447378f328226b1a626c76b1c7a5cf5622e0ba9d42e79ef", func := "tinsel/tinsellaw22.ArgsEnvs", spec := "argsEnvs", inPlace := ["internal/bytealg.CountString", "internal/bytealg.IndexByteString", "internal/bytealg.IndexString"], named := ["unicode/utf8.first", "unicode/utf8.acceptRanges", "internal/bytealg.MaxLen"], apart := false, laid := [("unicode/utf8.acceptRanges", laid_unicode_utf8_acceptRanges), ("unicode/utf8.first", laid_unicode_utf8_first)] }
def ArgsEnvsSaid : Prop := argsEnvsRow.holds Tryd.pinned (OpenSpec.ofChange argsEnvsSpec)

/-- ITS FALSE NEIGHBOUR: 'it returns false'. Refute it at one input. -/
def argsEnvsWrong : ChangeSpec := { name := "argsEnvs", fn := fun _ => fun
  | [d1, d2, d3] => { results := [.lit (.bool false)], args := [d1, d2, d3] }
  | _ => none }
def ArgsEnvsWrongFalsely : Prop := argsEnvsRow.holds Tryd.pinned (OpenSpec.ofChange argsEnvsWrong)

/-- 'tinsellaw22.ArgsNone': WHATEVER THE INPUT: true; the input reads as it did. -/
def argsNoneSpec : ChangeSpec := { name := "argsNone", fn := fun _ => fun
  | [d1, d2] => { results := [.lit (.bool true)], args := [d1, d2] }
  | _ => none }
def argsNoneRow : OpenClaim := { program := "ytcblodlmddeamaadoor", sum := "03c9962a78347508b447378f328226b1a626c76b1c7a5cf5622e0ba9d42e79ef", func := "tinsel/tinsellaw22.ArgsNone", spec := "argsNone", inPlace := ["internal/bytealg.IndexByteString", "internal/bytealg.IndexString", "internal/bytealg.CountString"], named := ["internal/bytealg.MaxLen", "unicode/utf8.first", "unicode/utf8.acceptRanges"], apart := false, laid := [("unicode/utf8.acceptRanges", laid_unicode_utf8_acceptRanges), ("unicode/utf8.first", laid_unicode_utf8_first)] }
def ArgsNoneSaid : Prop := argsNoneRow.holds Tryd.pinned (OpenSpec.ofChange argsNoneSpec)

/-- ITS FALSE NEIGHBOUR: 'it returns false'. Refute it at one input. -/
def argsNoneWrong : ChangeSpec := { name := "argsNone", fn := fun _ => fun
  | [d1, d2] => { results := [.lit (.bool false)], args := [d1, d2] }
  | _ => none }
def ArgsNoneWrongFalsely : Prop := argsNoneRow.holds Tryd.pinned (OpenSpec.ofChange argsNoneWrong)

/- THE SECOND FORM. 'bulk': how many values and letters a reading holds, each counted each time it is reached (what is shared counts as often as it is met; a slice's spare places count too). A statement '..UptoSaid' is the law's where the arguments, and the package variables that the reading takes, are together of bulk at most 1048576: NARROWER than '..Said'. Prove '..Said' where nothing that the law and all that it calls make is longer than what came in: it says more and counts as full. Else prove '..UptoSaid'. A law counts once. -/
mutual
def uptoBulk {H : Type} : DataW H → Nat
  | .lit (.string bytes) => bytes.length + 1
  | .lit _ => 1
  | .nil => 1
  | .ptr d => uptoBulk d + 1
  | .slice elems spare => uptoBulkAll elems + uptoBulkAll spare + 1
  | .agg parts => uptoBulkAll parts + 1
  | .iface _ d => uptoBulk d + 1
  | .map entries => uptoBulkEntries entries + 1
  | .held _ => 1
def uptoBulkAll {H : Type} : List (DataW H) → Nat
  | [] => 0
  | d :: r => uptoBulk d + uptoBulkAll r
def uptoBulkEntries {H : Type} : List (Lit × DataW H) → Nat
  | [] => 0
  | x :: r => uptoBulkEntry x + uptoBulkEntries r
def uptoBulkEntry {H : Type} : Lit × DataW H → Nat
  | (.string bytes, d) => bytes.length + uptoBulk d + 1
  | (_, d) => uptoBulk d + 1
 end
def uptoSmall : (H : Type) → List (DataW H) → Bool := fun _ ds => decide (uptoBulkAll ds ≤ 1048576)
def OpenSpec.upto (s : _root_.Go.ChangeSpec) : _root_.Go.OpenSpec := { _root_.Go.OpenSpec.ofChange s with cond := some uptoSmall }

/-- 'tinsellaw22.ArgsSplits', WHERE WHAT IT READS IS OF BULK AT MOST 1048576: true; the input reads as it did. -/
def argsSplitsUptoRow : OpenClaim := { program := "ytcblodlmddeamaadoor", sum := "03c9962a78347508b447378f328226b1a626c76b1c7a5cf5622e0ba9d42e79ef", func := "tinsel/tinsellaw22.ArgsSplits", spec := "argsSplits", inPlace := ["internal/bytealg.CountString", "internal/bytealg.IndexByteString", "internal/bytealg.IndexString"], named := ["unicode/utf8.first", "unicode/utf8.acceptRanges", "internal/bytealg.MaxLen"], apart := false, laid := [("unicode/utf8.acceptRanges", laid_unicode_utf8_acceptRanges), ("unicode/utf8.first", laid_unicode_utf8_first)], narrowed := true }
def ArgsSplitsUptoSaid : Prop := argsSplitsUptoRow.holds Tryd.pinned (OpenSpec.upto argsSplitsSpec)

/-- 'tinsellaw22.ArgsBatches', WHERE WHAT IT READS IS OF BULK AT MOST 1048576: true; the input reads as it did. -/
def argsBatchesUptoRow : OpenClaim := { program := "ytcblodlmddeamaadoor", sum := "03c9962a78347508b447378f328226b1a626c76b1c7a5cf5622e0ba9d42e79ef", func := "tinsel/tinsellaw22.ArgsBatches", spec := "argsBatches", inPlace := ["internal/bytealg.CountString", "internal/bytealg.IndexByteString", "internal/bytealg.IndexString"], unfollowed := true, recurses := true, named := ["unicode/utf8.first", "unicode/utf8.acceptRanges", "internal/bytealg.MaxLen"], apart := false, laid := [("unicode/utf8.acceptRanges", laid_unicode_utf8_acceptRanges), ("unicode/utf8.first", laid_unicode_utf8_first)], narrowed := true }
def ArgsBatchesUptoSaid : Prop := argsBatchesUptoRow.holds Tryd.pinned (OpenSpec.upto argsBatchesSpec)

/-- 'tinsellaw22.ArgsReplaces', WHERE WHAT IT READS IS OF BULK AT MOST 1048576: true; the input reads as it did. -/
def argsReplacesUptoRow : OpenClaim := { program := "ytcblodlmddeamaadoor", sum := "03c9962a78347508b447378f328226b1a626c76b1c7a5cf5622e0ba9d42e79ef", func := "tinsel/tinsellaw22.ArgsReplaces", spec := "argsReplaces", inPlace := ["internal/bytealg.CountString", "internal/bytealg.IndexByteString", "internal/bytealg.IndexString", "internal/abi.NoEscape", "internal/bytealg.MakeNoZero"], named := ["unicode/utf8.first", "unicode/utf8.acceptRanges", "internal/bytealg.MaxLen"], apart := false, laid := [("unicode/utf8.acceptRanges", laid_unicode_utf8_acceptRanges), ("unicode/utf8.first", laid_unicode_utf8_first)], narrowed := true }
def ArgsReplacesUptoSaid : Prop := argsReplacesUptoRow.holds Tryd.pinned (OpenSpec.upto argsReplacesSpec)

/-- 'tinsellaw22.ArgsWhole', WHERE WHAT IT READS IS OF BULK AT MOST 1048576: true; the input reads as it did. -/
def argsWholeUptoRow : OpenClaim := { program := "ytcblodlmddeamaadoor", sum := "03c9962a78347508b447378f328226b1a626c76b1c7a5cf5622e0ba9d42e79ef", func := "tinsel/tinsellaw22.ArgsWhole", spec := "argsWhole", inPlace := ["internal/bytealg.IndexByteString", "internal/bytealg.IndexString", "internal/bytealg.CountString"], unfollowed := true, recurses := true, named := ["internal/bytealg.MaxLen", "unicode/utf8.first", "unicode/utf8.acceptRanges"], apart := false, laid := [("unicode/utf8.acceptRanges", laid_unicode_utf8_acceptRanges), ("unicode/utf8.first", laid_unicode_utf8_first)], narrowed := true }
def ArgsWholeUptoSaid : Prop := argsWholeUptoRow.holds Tryd.pinned (OpenSpec.upto argsWholeSpec)

/-- 'tinsellaw22.ArgsEnvs', WHERE WHAT IT READS IS OF BULK AT MOST 1048576: true; the input reads as it did. -/
def argsEnvsUptoRow : OpenClaim := { program := "ytcblodlmddeamaadoor", sum := "03c9962a78347508b447378f328226b1a626c76b1c7a5cf5622e0ba9d42e79ef", func := "tinsel/tinsellaw22.ArgsEnvs", spec := "argsEnvs", inPlace := ["internal/bytealg.CountString", "internal/bytealg.IndexByteString", "internal/bytealg.IndexString"], named := ["unicode/utf8.first", "unicode/utf8.acceptRanges", "internal/bytealg.MaxLen"], apart := false, laid := [("unicode/utf8.acceptRanges", laid_unicode_utf8_acceptRanges), ("unicode/utf8.first", laid_unicode_utf8_first)], narrowed := true }
def ArgsEnvsUptoSaid : Prop := argsEnvsUptoRow.holds Tryd.pinned (OpenSpec.upto argsEnvsSpec)

/-- 'tinsellaw22.ArgsNone', WHERE WHAT IT READS IS OF BULK AT MOST 1048576: true; the input reads as it did. -/
def argsNoneUptoRow : OpenClaim := { program := "ytcblodlmddeamaadoor", sum := "03c9962a78347508b447378f328226b1a626c76b1c7a5cf5622e0ba9d42e79ef", func := "tinsel/tinsellaw22.ArgsNone", spec := "argsNone", inPlace := ["internal/bytealg.IndexByteString", "internal/bytealg.IndexString", "internal/bytealg.CountString"], named := ["internal/bytealg.MaxLen", "unicode/utf8.first", "unicode/utf8.acceptRanges"], apart := false, laid := [("unicode/utf8.acceptRanges", laid_unicode_utf8_acceptRanges), ("unicode/utf8.first", laid_unicode_utf8_first)], narrowed := true }
def ArgsNoneUptoSaid : Prop := argsNoneUptoRow.holds Tryd.pinned (OpenSpec.upto argsNoneSpec)

end Rows
end Go.Proofs.YtcblodlmddeamaaDoor
