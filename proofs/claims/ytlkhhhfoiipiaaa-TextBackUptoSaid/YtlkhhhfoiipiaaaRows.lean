/-
  No cell of these rows narrows 'for every input' (looked for: loops, veiled, ifaces, maps, wideKeys, modest, calm, conditions, laid).
  DERIVED. THE GIVEN ROWS OF THIS SEAT. 7 by the template 'for every input the law returns true; each argument reads behind the call as it read before'; 0 by the template 'total and deterministic' (their statements: YtlkhhhfoiipiaaaTotals.lean).
  GIVEN WITH THE SEED: the statements are not yours to turn. If you find one false, say at which input.
  Laid BY PROGRAM, IN A SANDBOX (cutbox-rows.mjs): the forced cells as the released guide's own fill.sh prints them over the translation 1c443daa0decab2a… (all of the seat's roots in one cut). By AI agents, Wed Nov 11 2026. No macro, syntax, notation, axiom, sorry.
-/
import Derived.Test.YtlkhhhfoiipiaaaChecked
import GoSem.Claim
import GoSem.ClaimJoined
import GoSem.ClaimMapViews
import Derived.JoinedTies
import Derived.KernelRfl
namespace Go.Proofs.Ytlkhhhfoiipiaaa
/- THE CELL 'sum', in the pinned program and in every row, IS THE sha256 OF THE DUMP (.gsa) THAT YtlkhhhfoiipiaaaProg.lean LOADS. Nothing in Lean hashes anything: it is a label: what it is worth is what the hold of that sum in a sandbox is worth. -/
noncomputable def Try.pinned : Pinned := { name := "ytlkhhhfoiipiaaa", sum := "1c443daa0decab2ab152960b764c9c124667b341f4374a337d085d523752e6d3", checked := Try.checked }
namespace Rows
def none {H : Type} : Left H := { results := [], args := [] }

/-- 'tinsellaw15.TextFolds': WHATEVER THE INPUT: true; the input reads as it did. -/
def textFoldsSpec : ChangeSpec := { name := "textFolds", fn := fun _ => fun
  | [d1, d2, d3] => { results := [.lit (.bool true)], args := [d1, d2, d3] }
  | _ => none }
def textFoldsRow : OpenClaim := { program := "ytlkhhhfoiipiaaa", sum := "1c443daa0decab2ab152960b764c9c124667b341f4374a337d085d523752e6d3", func := "tinsel/tinsellaw15.TextFolds", spec := "textFolds", inPlace := ["internal/bytealg.IndexByte", "internal/bytealg.Count", "internal/bytealg.Index"], unfollowed := true, recurses := true, named := ["internal/bytealg.MaxLen"], apart := false }
def TextFoldsSaid : Prop := textFoldsRow.holds Try.pinned (OpenSpec.ofChange textFoldsSpec)

/-- ITS FALSE NEIGHBOUR: 'it returns false'. Refute it at one input. -/
def textFoldsWrong : ChangeSpec := { name := "textFolds", fn := fun _ => fun
  | [d1, d2, d3] => { results := [.lit (.bool false)], args := [d1, d2, d3] }
  | _ => none }
def TextFoldsWrongFalsely : Prop := textFoldsRow.holds Try.pinned (OpenSpec.ofChange textFoldsWrong)

/-- 'tinsellaw15.TextLines': WHATEVER THE INPUT: true; the input reads as it did. -/
def textLinesSpec : ChangeSpec := { name := "textLines", fn := fun _ => fun
  | [d1, d2, d3] => { results := [.lit (.bool true)], args := [d1, d2, d3] }
  | _ => none }
def textLinesRow : OpenClaim := { program := "ytlkhhhfoiipiaaa", sum := "1c443daa0decab2ab152960b764c9c124667b341f4374a337d085d523752e6d3", func := "tinsel/tinsellaw15.TextLines", spec := "textLines", inPlace := ["internal/bytealg.IndexByte", "internal/bytealg.Count", "internal/bytealg.Index"], unfollowed := true, recurses := true, named := ["internal/bytealg.MaxLen"], apart := false }
def TextLinesSaid : Prop := textLinesRow.holds Try.pinned (OpenSpec.ofChange textLinesSpec)

/-- ITS FALSE NEIGHBOUR: 'it returns false'. Refute it at one input. -/
def textLinesWrong : ChangeSpec := { name := "textLines", fn := fun _ => fun
  | [d1, d2, d3] => { results := [.lit (.bool false)], args := [d1, d2, d3] }
  | _ => none }
def TextLinesWrongFalsely : Prop := textLinesRow.holds Try.pinned (OpenSpec.ofChange textLinesWrong)

/-- 'tinsellaw15.TextEnds': WHATEVER THE INPUT: true; the input reads as it did. -/
def textEndsSpec : ChangeSpec := { name := "textEnds", fn := fun _ => fun
  | [d1, d2, d3] => { results := [.lit (.bool true)], args := [d1, d2, d3] }
  | _ => none }
def textEndsRow : OpenClaim := { program := "ytlkhhhfoiipiaaa", sum := "1c443daa0decab2ab152960b764c9c124667b341f4374a337d085d523752e6d3", func := "tinsel/tinsellaw15.TextEnds", spec := "textEnds", inPlace := ["internal/bytealg.IndexByte", "internal/bytealg.Count", "internal/bytealg.Index"], unfollowed := true, recurses := true, named := ["internal/bytealg.MaxLen"], apart := false }
def TextEndsSaid : Prop := textEndsRow.holds Try.pinned (OpenSpec.ofChange textEndsSpec)

/-- ITS FALSE NEIGHBOUR: 'it returns false'. Refute it at one input. -/
def textEndsWrong : ChangeSpec := { name := "textEnds", fn := fun _ => fun
  | [d1, d2, d3] => { results := [.lit (.bool false)], args := [d1, d2, d3] }
  | _ => none }
def TextEndsWrongFalsely : Prop := textEndsRow.holds Try.pinned (OpenSpec.ofChange textEndsWrong)

/-- 'tinsellaw15.TextSplits': WHATEVER THE INPUT: true; the input reads as it did. -/
def textSplitsSpec : ChangeSpec := { name := "textSplits", fn := fun _ => fun
  | [d1, d2] => { results := [.lit (.bool true)], args := [d1, d2] }
  | _ => none }
def textSplitsRow : OpenClaim := { program := "ytlkhhhfoiipiaaa", sum := "1c443daa0decab2ab152960b764c9c124667b341f4374a337d085d523752e6d3", func := "tinsel/tinsellaw15.TextSplits", spec := "textSplits", inPlace := ["internal/bytealg.IndexByte", "internal/bytealg.Count", "internal/bytealg.Index"], unfollowed := true, recurses := true, named := ["internal/bytealg.MaxLen"], apart := false }
def TextSplitsSaid : Prop := textSplitsRow.holds Try.pinned (OpenSpec.ofChange textSplitsSpec)

/-- ITS FALSE NEIGHBOUR: 'it returns false'. Refute it at one input. -/
def textSplitsWrong : ChangeSpec := { name := "textSplits", fn := fun _ => fun
  | [d1, d2] => { results := [.lit (.bool false)], args := [d1, d2] }
  | _ => none }
def TextSplitsWrongFalsely : Prop := textSplitsRow.holds Try.pinned (OpenSpec.ofChange textSplitsWrong)

/-- 'tinsellaw15.TextPastes': WHATEVER THE INPUT: true; the input reads as it did. -/
def textPastesSpec : ChangeSpec := { name := "textPastes", fn := fun _ => fun
  | [d1, d2] => { results := [.lit (.bool true)], args := [d1, d2] }
  | _ => none }
def textPastesRow : OpenClaim := { program := "ytlkhhhfoiipiaaa", sum := "1c443daa0decab2ab152960b764c9c124667b341f4374a337d085d523752e6d3", func := "tinsel/tinsellaw15.TextPastes", spec := "textPastes", inPlace := ["internal/bytealg.IndexByte", "internal/bytealg.Count", "internal/bytealg.Index"], unfollowed := true, recurses := true, named := ["internal/bytealg.MaxLen"], apart := false }
def TextPastesSaid : Prop := textPastesRow.holds Try.pinned (OpenSpec.ofChange textPastesSpec)

/-- ITS FALSE NEIGHBOUR: 'it returns false'. Refute it at one input. -/
def textPastesWrong : ChangeSpec := { name := "textPastes", fn := fun _ => fun
  | [d1, d2] => { results := [.lit (.bool false)], args := [d1, d2] }
  | _ => none }
def TextPastesWrongFalsely : Prop := textPastesRow.holds Try.pinned (OpenSpec.ofChange textPastesWrong)

/-- 'tinsellaw15.TextTabs': WHATEVER THE INPUT: true; the input reads as it did. -/
def textTabsSpec : ChangeSpec := { name := "textTabs", fn := fun _ => fun
  | [d1, d2, d3] => { results := [.lit (.bool true)], args := [d1, d2, d3] }
  | _ => none }
def textTabsRow : OpenClaim := { program := "ytlkhhhfoiipiaaa", sum := "1c443daa0decab2ab152960b764c9c124667b341f4374a337d085d523752e6d3", func := "tinsel/tinsellaw15.TextTabs", spec := "textTabs", inPlace := ["internal/bytealg.IndexByte", "internal/bytealg.Count", "internal/bytealg.Index", "internal/bytealg.MakeNoZero"], unfollowed := true, recurses := true, named := ["internal/bytealg.MaxLen"], apart := false }
def TextTabsSaid : Prop := textTabsRow.holds Try.pinned (OpenSpec.ofChange textTabsSpec)

/-- ITS FALSE NEIGHBOUR: 'it returns false'. Refute it at one input. -/
def textTabsWrong : ChangeSpec := { name := "textTabs", fn := fun _ => fun
  | [d1, d2, d3] => { results := [.lit (.bool false)], args := [d1, d2, d3] }
  | _ => none }
def TextTabsWrongFalsely : Prop := textTabsRow.holds Try.pinned (OpenSpec.ofChange textTabsWrong)

/-- 'tinsellaw15.TextBack': WHATEVER THE INPUT: true; the input reads as it did. -/
def textBackSpec : ChangeSpec := { name := "textBack", fn := fun _ => fun
  | [d1, d2] => { results := [.lit (.bool true)], args := [d1, d2] }
  | _ => none }
def textBackRow : OpenClaim := { program := "ytlkhhhfoiipiaaa", sum := "1c443daa0decab2ab152960b764c9c124667b341f4374a337d085d523752e6d3", func := "tinsel/tinsellaw15.TextBack", spec := "textBack", inPlace := ["internal/bytealg.IndexByte", "internal/bytealg.MakeNoZero", "internal/bytealg.Count", "internal/bytealg.Index"], unfollowed := true, recurses := true, named := ["internal/bytealg.MaxLen"], apart := false }
def TextBackSaid : Prop := textBackRow.holds Try.pinned (OpenSpec.ofChange textBackSpec)

/-- ITS FALSE NEIGHBOUR: 'it returns false'. Refute it at one input. -/
def textBackWrong : ChangeSpec := { name := "textBack", fn := fun _ => fun
  | [d1, d2] => { results := [.lit (.bool false)], args := [d1, d2] }
  | _ => none }
def TextBackWrongFalsely : Prop := textBackRow.holds Try.pinned (OpenSpec.ofChange textBackWrong)

/- THE SECOND FORM. 'bulk': how many values and letters a reading holds, each counted each time it is reached (what is shared counts as often as it is met; a slice's spare places count too). A statement '..UptoSaid' is the law's where the arguments, and the package variables that the reading takes, are together of bulk at most 1048576: NARROWER than '..Said'. Prove '..Said' where nothing that the law and all that it calls make is longer than what came in: it says more and counts as full. Else prove '..UptoSaid'. A law counts once. -/
mutual
def uptoBulk {H : Type} : DataW H → Nat
  | .lit (.string bytes) => bytes.length + 1
  | .lit _ => 1
  | .nil => 1
  | .ptr d => uptoBulk d + 1
  | .slice elems spare => uptoBulkAll elems + uptoBulkAll spare + 1
  | .agg parts => uptoBulkAll parts + 1
  | .iface _ d => uptoBulk d + 1
  | .map entries => uptoBulkEntries entries + 1
  | .held _ => 1
def uptoBulkAll {H : Type} : List (DataW H) → Nat
  | [] => 0
  | d :: r => uptoBulk d + uptoBulkAll r
def uptoBulkEntries {H : Type} : List (Lit × DataW H) → Nat
  | [] => 0
  | x :: r => uptoBulkEntry x + uptoBulkEntries r
def uptoBulkEntry {H : Type} : Lit × DataW H → Nat
  | (.string bytes, d) => bytes.length + uptoBulk d + 1
  | (_, d) => uptoBulk d + 1
 end
def uptoSmall : (H : Type) → List (DataW H) → Bool := fun _ ds => decide (uptoBulkAll ds ≤ 1048576)
def OpenSpec.upto (s : _root_.Go.ChangeSpec) : _root_.Go.OpenSpec := { _root_.Go.OpenSpec.ofChange s with cond := some uptoSmall }

/-- 'tinsellaw15.TextFolds', WHERE WHAT IT READS IS OF BULK AT MOST 1048576: true; the input reads as it did. -/
def textFoldsUptoRow : OpenClaim := { program := "ytlkhhhfoiipiaaa", sum := "1c443daa0decab2ab152960b764c9c124667b341f4374a337d085d523752e6d3", func := "tinsel/tinsellaw15.TextFolds", spec := "textFolds", inPlace := ["internal/bytealg.IndexByte", "internal/bytealg.Count", "internal/bytealg.Index"], unfollowed := true, recurses := true, named := ["internal/bytealg.MaxLen"], apart := false, narrowed := true }
def TextFoldsUptoSaid : Prop := textFoldsUptoRow.holds Try.pinned (OpenSpec.upto textFoldsSpec)

/-- 'tinsellaw15.TextLines', WHERE WHAT IT READS IS OF BULK AT MOST 1048576: true; the input reads as it did. -/
def textLinesUptoRow : OpenClaim := { program := "ytlkhhhfoiipiaaa", sum := "1c443daa0decab2ab152960b764c9c124667b341f4374a337d085d523752e6d3", func := "tinsel/tinsellaw15.TextLines", spec := "textLines", inPlace := ["internal/bytealg.IndexByte", "internal/bytealg.Count", "internal/bytealg.Index"], unfollowed := true, recurses := true, named := ["internal/bytealg.MaxLen"], apart := false, narrowed := true }
def TextLinesUptoSaid : Prop := textLinesUptoRow.holds Try.pinned (OpenSpec.upto textLinesSpec)

/-- 'tinsellaw15.TextEnds', WHERE WHAT IT READS IS OF BULK AT MOST 1048576: true; the input reads as it did. -/
def textEndsUptoRow : OpenClaim := { program := "ytlkhhhfoiipiaaa", sum := "1c443daa0decab2ab152960b764c9c124667b341f4374a337d085d523752e6d3", func := "tinsel/tinsellaw15.TextEnds", spec := "textEnds", inPlace := ["internal/bytealg.IndexByte", "internal/bytealg.Count", "internal/bytealg.Index"], unfollowed := true, recurses := true, named := ["internal/bytealg.MaxLen"], apart := false, narrowed := true }
def TextEndsUptoSaid : Prop := textEndsUptoRow.holds Try.pinned (OpenSpec.upto textEndsSpec)

/-- 'tinsellaw15.TextSplits', WHERE WHAT IT READS IS OF BULK AT MOST 1048576: true; the input reads as it did. -/
def textSplitsUptoRow : OpenClaim := { program := "ytlkhhhfoiipiaaa", sum := "1c443daa0decab2ab152960b764c9c124667b341f4374a337d085d523752e6d3", func := "tinsel/tinsellaw15.TextSplits", spec := "textSplits", inPlace := ["internal/bytealg.IndexByte", "internal/bytealg.Count", "internal/bytealg.Index"], unfollowed := true, recurses := true, named := ["internal/bytealg.MaxLen"], apart := false, narrowed := true }
def TextSplitsUptoSaid : Prop := textSplitsUptoRow.holds Try.pinned (OpenSpec.upto textSplitsSpec)

/-- 'tinsellaw15.TextPastes', WHERE WHAT IT READS IS OF BULK AT MOST 1048576: true; the input reads as it did. -/
def textPastesUptoRow : OpenClaim := { program := "ytlkhhhfoiipiaaa", sum := "1c443daa0decab2ab152960b764c9c124667b341f4374a337d085d523752e6d3", func := "tinsel/tinsellaw15.TextPastes", spec := "textPastes", inPlace := ["internal/bytealg.IndexByte", "internal/bytealg.Count", "internal/bytealg.Index"], unfollowed := true, recurses := true, named := ["internal/bytealg.MaxLen"], apart := false, narrowed := true }
def TextPastesUptoSaid : Prop := textPastesUptoRow.holds Try.pinned (OpenSpec.upto textPastesSpec)

/-- 'tinsellaw15.TextTabs', WHERE WHAT IT READS IS OF BULK AT MOST 1048576: true; the input reads as it did. -/
def textTabsUptoRow : OpenClaim := { program := "ytlkhhhfoiipiaaa", sum := "1c443daa0decab2ab152960b764c9c124667b341f4374a337d085d523752e6d3", func := "tinsel/tinsellaw15.TextTabs", spec := "textTabs", inPlace := ["internal/bytealg.IndexByte", "internal/bytealg.Count", "internal/bytealg.Index", "internal/bytealg.MakeNoZero"], unfollowed := true, recurses := true, named := ["internal/bytealg.MaxLen"], apart := false, narrowed := true }
def TextTabsUptoSaid : Prop := textTabsUptoRow.holds Try.pinned (OpenSpec.upto textTabsSpec)

/-- 'tinsellaw15.TextBack', WHERE WHAT IT READS IS OF BULK AT MOST 1048576: true; the input reads as it did. -/
def textBackUptoRow : OpenClaim := { program := "ytlkhhhfoiipiaaa", sum := "1c443daa0decab2ab152960b764c9c124667b341f4374a337d085d523752e6d3", func := "tinsel/tinsellaw15.TextBack", spec := "textBack", inPlace := ["internal/bytealg.IndexByte", "internal/bytealg.MakeNoZero", "internal/bytealg.Count", "internal/bytealg.Index"], unfollowed := true, recurses := true, named := ["internal/bytealg.MaxLen"], apart := false, narrowed := true }
def TextBackUptoSaid : Prop := textBackUptoRow.holds Try.pinned (OpenSpec.upto textBackSpec)

end Rows
end Go.Proofs.Ytlkhhhfoiipiaaa
