/-
  NARROWER THAN 'FOR EVERY INPUT', by the rows' own cells (each row's printed sentence says how): OrderNames: laid · OrderKeys: laid · OrderParts: laid · OrderStands: laid · OrderMerges: laid · OrderUniqs: laid · OrderComms: laid · OrderHalves: laid · OrderJoins: laid.
  DERIVED. THE GIVEN ROWS OF THIS SEAT. 9 by the template 'for every input the law returns true; each argument reads behind the call as it read before'; 0 by the template 'total and deterministic' (their statements: YtpobfjefkefadaaDoorTotals.lean).
  GIVEN WITH THE SEED: the statements are not yours to turn. If you find one false, say at which input.
  Laid BY PROGRAM, IN A SANDBOX (cutbox-rows.mjs): the forced cells as the released guide's own fill.sh prints them over the translation 2a3ffbb3bf5678a5… (all of the seat's roots in one cut). By AI agents, Wed Nov 11 2026. No macro, syntax, notation, axiom, sorry.
-/
import Derived.Test.YtpobfjefkefadaaDoorChecked
import GoSem.PinnedTables
import GoSem.Claim
import GoSem.ClaimJoined
import GoSem.ClaimMapViews
import Derived.JoinedTies
import Derived.KernelRfl
namespace Go.Proofs.YtpobfjefkefadaaDoor
/- THE CELL 'sum', in the pinned program and in every row, IS THE sha256 OF THE DUMP (.gsa) THAT YtpobfjefkefadaaDoorProg.lean LOADS. Nothing in Lean hashes anything: it is a label: what it is worth is what the hold of that sum in a sandbox is worth. -/
noncomputable def Tryd.pinned : Pinned := { name := "ytpobfjefkefadaadoor", sum := "2a3ffbb3bf5678a5f31d4c751f83de0ec056877fcb135d27c5338f1183e80c8f", checked := Tryd.checked }
namespace Rows
def none {H : Type} : Left H := { results := [], args := [] }

/- WHAT THE LISTED PACKAGE-LEVEL VARIABLES READ AS WHEN THE CALL BEGINS. Each datum BY PROGRAM (the guide's laid-datum.mjs) off the statement by which the dump's own 'gosem.cut.vars' lays the variable. In a bare row this is a premise. The card (YtpobfjefkefadaaDoorCards.lean) ties it to the program's text. -/
def laid_unicode_utf8_acceptRanges {H : Type} : DataW H := .agg [.agg [.lit (.int .u8 128), .lit (.int .u8 191)], .agg [.lit (.int .u8 160), .lit (.int .u8 191)], .agg [.lit (.int .u8 128), .lit (.int .u8 159)], .agg [.lit (.int .u8 144), .lit (.int .u8 191)], .agg [.lit (.int .u8 128), .lit (.int .u8 143)], .agg [.lit (.int .u8 0), .lit (.int .u8 0)], .agg [.lit (.int .u8 0), .lit (.int .u8 0)], .agg [.lit (.int .u8 0), .lit (.int .u8 0)], .agg [.lit (.int .u8 0), .lit (.int .u8 0)], .agg [.lit (.int .u8 0), .lit (.int .u8 0)], .agg [.lit (.int .u8 0), .lit (.int .u8 0)], .agg [.lit (.int .u8 0), .lit (.int .u8 0)], .agg [.lit (.int .u8 0), .lit (.int .u8 0)], .agg [.lit (.int .u8 0), .lit (.int .u8 0)], .agg [.lit (.int .u8 0), .lit (.int .u8 0)], .agg [.lit (.int .u8 0), .lit (.int .u8 0)]]
/-- One of Go's own tables, pinned by name: the form's constant. -/
def laid_unicode_utf8_first : DataW Unit := Go.Pinned.utf8First

/-- 'tinsellaw16.OrderNames': WHATEVER THE INPUT: true; the input reads as it did. -/
def orderNamesSpec : ChangeSpec := { name := "orderNames", fn := fun _ => fun
  | [] => { results := [.lit (.bool true)], args := [] }
  | _ => none }
def orderNamesRow : OpenClaim := { program := "ytpobfjefkefadaadoor", sum := "2a3ffbb3bf5678a5f31d4c751f83de0ec056877fcb135d27c5338f1183e80c8f", func := "tinsel/tinsellaw16.OrderNames", spec := "orderNames", inPlace := ["internal/bytealg.Compare"], unfollowed := true, recurses := true, named := ["unicode/utf8.first", "unicode/utf8.acceptRanges"], apart := false, laid := [("unicode/utf8.acceptRanges", laid_unicode_utf8_acceptRanges), ("unicode/utf8.first", laid_unicode_utf8_first)] }
def OrderNamesSaid : Prop := orderNamesRow.holds Tryd.pinned (OpenSpec.ofChange orderNamesSpec)

/-- ITS FALSE NEIGHBOUR: 'it returns false'. Refute it at one input. -/
def orderNamesWrong : ChangeSpec := { name := "orderNames", fn := fun _ => fun
  | [] => { results := [.lit (.bool false)], args := [] }
  | _ => none }
def OrderNamesWrongFalsely : Prop := orderNamesRow.holds Tryd.pinned (OpenSpec.ofChange orderNamesWrong)

/-- 'tinsellaw16.OrderKeys': WHATEVER THE INPUT: true; the input reads as it did. -/
def orderKeysSpec : ChangeSpec := { name := "orderKeys", fn := fun _ => fun
  | [d] => { results := [.lit (.bool true)], args := [d] }
  | _ => none }
def orderKeysRow : OpenClaim := { program := "ytpobfjefkefadaadoor", sum := "2a3ffbb3bf5678a5f31d4c751f83de0ec056877fcb135d27c5338f1183e80c8f", func := "tinsel/tinsellaw16.OrderKeys", spec := "orderKeys", inPlace := ["internal/bytealg.Compare"], unfollowed := true, recurses := true, named := ["unicode/utf8.first", "unicode/utf8.acceptRanges"], apart := false, laid := [("unicode/utf8.acceptRanges", laid_unicode_utf8_acceptRanges), ("unicode/utf8.first", laid_unicode_utf8_first)] }
def OrderKeysSaid : Prop := orderKeysRow.holds Tryd.pinned (OpenSpec.ofChange orderKeysSpec)

/-- ITS FALSE NEIGHBOUR: 'it returns false'. Refute it at one input. -/
def orderKeysWrong : ChangeSpec := { name := "orderKeys", fn := fun _ => fun
  | [d] => { results := [.lit (.bool false)], args := [d] }
  | _ => none }
def OrderKeysWrongFalsely : Prop := orderKeysRow.holds Tryd.pinned (OpenSpec.ofChange orderKeysWrong)

/-- 'tinsellaw16.OrderParts': WHATEVER THE INPUT: true; the input reads as it did. -/
def orderPartsSpec : ChangeSpec := { name := "orderParts", fn := fun _ => fun
  | [d1, d2, d3] => { results := [.lit (.bool true)], args := [d1, d2, d3] }
  | _ => none }
def orderPartsRow : OpenClaim := { program := "ytpobfjefkefadaadoor", sum := "2a3ffbb3bf5678a5f31d4c751f83de0ec056877fcb135d27c5338f1183e80c8f", func := "tinsel/tinsellaw16.OrderParts", spec := "orderParts", inPlace := ["internal/bytealg.Compare"], unfollowed := true, recurses := true, named := ["unicode/utf8.first", "unicode/utf8.acceptRanges"], apart := false, laid := [("unicode/utf8.acceptRanges", laid_unicode_utf8_acceptRanges), ("unicode/utf8.first", laid_unicode_utf8_first)] }
def OrderPartsSaid : Prop := orderPartsRow.holds Tryd.pinned (OpenSpec.ofChange orderPartsSpec)

/-- ITS FALSE NEIGHBOUR: 'it returns false'. Refute it at one input. -/
def orderPartsWrong : ChangeSpec := { name := "orderParts", fn := fun _ => fun
  | [d1, d2, d3] => { results := [.lit (.bool false)], args := [d1, d2, d3] }
  | _ => none }
def OrderPartsWrongFalsely : Prop := orderPartsRow.holds Tryd.pinned (OpenSpec.ofChange orderPartsWrong)

/-- 'tinsellaw16.OrderStands': WHATEVER THE INPUT: true; the input reads as it did. -/
def orderStandsSpec : ChangeSpec := { name := "orderStands", fn := fun _ => fun
  | [d1, d2] => { results := [.lit (.bool true)], args := [d1, d2] }
  | _ => none }
def orderStandsRow : OpenClaim := { program := "ytpobfjefkefadaadoor", sum := "2a3ffbb3bf5678a5f31d4c751f83de0ec056877fcb135d27c5338f1183e80c8f", func := "tinsel/tinsellaw16.OrderStands", spec := "orderStands", inPlace := ["internal/bytealg.Compare"], unfollowed := true, recurses := true, named := ["unicode/utf8.first", "unicode/utf8.acceptRanges"], apart := false, laid := [("unicode/utf8.acceptRanges", laid_unicode_utf8_acceptRanges), ("unicode/utf8.first", laid_unicode_utf8_first)] }
def OrderStandsSaid : Prop := orderStandsRow.holds Tryd.pinned (OpenSpec.ofChange orderStandsSpec)

/-- ITS FALSE NEIGHBOUR: 'it returns false'. Refute it at one input. -/
def orderStandsWrong : ChangeSpec := { name := "orderStands", fn := fun _ => fun
  | [d1, d2] => { results := [.lit (.bool false)], args := [d1, d2] }
  | _ => none }
def OrderStandsWrongFalsely : Prop := orderStandsRow.holds Tryd.pinned (OpenSpec.ofChange orderStandsWrong)

/-- 'tinsellaw16.OrderMerges': WHATEVER THE INPUT: true; the input reads as it did. -/
def orderMergesSpec : ChangeSpec := { name := "orderMerges", fn := fun _ => fun
  | [d1, d2] => { results := [.lit (.bool true)], args := [d1, d2] }
  | _ => none }
def orderMergesRow : OpenClaim := { program := "ytpobfjefkefadaadoor", sum := "2a3ffbb3bf5678a5f31d4c751f83de0ec056877fcb135d27c5338f1183e80c8f", func := "tinsel/tinsellaw16.OrderMerges", spec := "orderMerges", inPlace := ["internal/bytealg.Compare"], unfollowed := true, recurses := true, named := ["unicode/utf8.first", "unicode/utf8.acceptRanges"], apart := false, laid := [("unicode/utf8.acceptRanges", laid_unicode_utf8_acceptRanges), ("unicode/utf8.first", laid_unicode_utf8_first)] }
def OrderMergesSaid : Prop := orderMergesRow.holds Tryd.pinned (OpenSpec.ofChange orderMergesSpec)

/-- ITS FALSE NEIGHBOUR: 'it returns false'. Refute it at one input. -/
def orderMergesWrong : ChangeSpec := { name := "orderMerges", fn := fun _ => fun
  | [d1, d2] => { results := [.lit (.bool false)], args := [d1, d2] }
  | _ => none }
def OrderMergesWrongFalsely : Prop := orderMergesRow.holds Tryd.pinned (OpenSpec.ofChange orderMergesWrong)

/-- 'tinsellaw16.OrderUniqs': WHATEVER THE INPUT: true; the input reads as it did. -/
def orderUniqsSpec : ChangeSpec := { name := "orderUniqs", fn := fun _ => fun
  | [d1, d2, d3] => { results := [.lit (.bool true)], args := [d1, d2, d3] }
  | _ => none }
def orderUniqsRow : OpenClaim := { program := "ytpobfjefkefadaadoor", sum := "2a3ffbb3bf5678a5f31d4c751f83de0ec056877fcb135d27c5338f1183e80c8f", func := "tinsel/tinsellaw16.OrderUniqs", spec := "orderUniqs", inPlace := ["internal/bytealg.Compare"], unfollowed := true, recurses := true, named := ["unicode/utf8.first", "unicode/utf8.acceptRanges"], apart := false, laid := [("unicode/utf8.acceptRanges", laid_unicode_utf8_acceptRanges), ("unicode/utf8.first", laid_unicode_utf8_first)] }
def OrderUniqsSaid : Prop := orderUniqsRow.holds Tryd.pinned (OpenSpec.ofChange orderUniqsSpec)

/-- ITS FALSE NEIGHBOUR: 'it returns false'. Refute it at one input. -/
def orderUniqsWrong : ChangeSpec := { name := "orderUniqs", fn := fun _ => fun
  | [d1, d2, d3] => { results := [.lit (.bool false)], args := [d1, d2, d3] }
  | _ => none }
def OrderUniqsWrongFalsely : Prop := orderUniqsRow.holds Tryd.pinned (OpenSpec.ofChange orderUniqsWrong)

/-- 'tinsellaw16.OrderComms': WHATEVER THE INPUT: true; the input reads as it did. -/
def orderCommsSpec : ChangeSpec := { name := "orderComms", fn := fun _ => fun
  | [d1, d2, d3] => { results := [.lit (.bool true)], args := [d1, d2, d3] }
  | _ => none }
def orderCommsRow : OpenClaim := { program := "ytpobfjefkefadaadoor", sum := "2a3ffbb3bf5678a5f31d4c751f83de0ec056877fcb135d27c5338f1183e80c8f", func := "tinsel/tinsellaw16.OrderComms", spec := "orderComms", inPlace := ["internal/bytealg.Compare"], unfollowed := true, recurses := true, named := ["unicode/utf8.first", "unicode/utf8.acceptRanges"], apart := false, laid := [("unicode/utf8.acceptRanges", laid_unicode_utf8_acceptRanges), ("unicode/utf8.first", laid_unicode_utf8_first)] }
def OrderCommsSaid : Prop := orderCommsRow.holds Tryd.pinned (OpenSpec.ofChange orderCommsSpec)

/-- ITS FALSE NEIGHBOUR: 'it returns false'. Refute it at one input. -/
def orderCommsWrong : ChangeSpec := { name := "orderComms", fn := fun _ => fun
  | [d1, d2, d3] => { results := [.lit (.bool false)], args := [d1, d2, d3] }
  | _ => none }
def OrderCommsWrongFalsely : Prop := orderCommsRow.holds Tryd.pinned (OpenSpec.ofChange orderCommsWrong)

/-- 'tinsellaw16.OrderHalves': WHATEVER THE INPUT: true; the input reads as it did. -/
def orderHalvesSpec : ChangeSpec := { name := "orderHalves", fn := fun _ => fun
  | [d1, d2, d3] => { results := [.lit (.bool true)], args := [d1, d2, d3] }
  | _ => none }
def orderHalvesRow : OpenClaim := { program := "ytpobfjefkefadaadoor", sum := "2a3ffbb3bf5678a5f31d4c751f83de0ec056877fcb135d27c5338f1183e80c8f", func := "tinsel/tinsellaw16.OrderHalves", spec := "orderHalves", inPlace := ["internal/bytealg.Compare"], unfollowed := true, recurses := true, named := ["unicode/utf8.first", "unicode/utf8.acceptRanges"], apart := false, laid := [("unicode/utf8.acceptRanges", laid_unicode_utf8_acceptRanges), ("unicode/utf8.first", laid_unicode_utf8_first)] }
def OrderHalvesSaid : Prop := orderHalvesRow.holds Tryd.pinned (OpenSpec.ofChange orderHalvesSpec)

/-- ITS FALSE NEIGHBOUR: 'it returns false'. Refute it at one input. -/
def orderHalvesWrong : ChangeSpec := { name := "orderHalves", fn := fun _ => fun
  | [d1, d2, d3] => { results := [.lit (.bool false)], args := [d1, d2, d3] }
  | _ => none }
def OrderHalvesWrongFalsely : Prop := orderHalvesRow.holds Tryd.pinned (OpenSpec.ofChange orderHalvesWrong)

/-- 'tinsellaw16.OrderJoins': WHATEVER THE INPUT: true; the input reads as it did. -/
def orderJoinsSpec : ChangeSpec := { name := "orderJoins", fn := fun _ => fun
  | [d1, d2, d3] => { results := [.lit (.bool true)], args := [d1, d2, d3] }
  | _ => none }
def orderJoinsRow : OpenClaim := { program := "ytpobfjefkefadaadoor", sum := "2a3ffbb3bf5678a5f31d4c751f83de0ec056877fcb135d27c5338f1183e80c8f", func := "tinsel/tinsellaw16.OrderJoins", spec := "orderJoins", inPlace := ["internal/bytealg.Compare", "internal/bytealg.MakeNoZero", "internal/bytealg.Count", "internal/bytealg.IndexByte", "internal/bytealg.Index"], unfollowed := true, recurses := true, named := ["unicode/utf8.first", "unicode/utf8.acceptRanges", "internal/bytealg.MaxLen"], apart := false, laid := [("unicode/utf8.acceptRanges", laid_unicode_utf8_acceptRanges), ("unicode/utf8.first", laid_unicode_utf8_first)] }
def OrderJoinsSaid : Prop := orderJoinsRow.holds Tryd.pinned (OpenSpec.ofChange orderJoinsSpec)

/-- ITS FALSE NEIGHBOUR: 'it returns false'. Refute it at one input. -/
def orderJoinsWrong : ChangeSpec := { name := "orderJoins", fn := fun _ => fun
  | [d1, d2, d3] => { results := [.lit (.bool false)], args := [d1, d2, d3] }
  | _ => none }
def OrderJoinsWrongFalsely : Prop := orderJoinsRow.holds Tryd.pinned (OpenSpec.ofChange orderJoinsWrong)

/- THE SECOND FORM. 'bulk': how many values and letters a reading holds, each counted each time it is reached (what is shared counts as often as it is met; a slice's spare places count too). A statement '..UptoSaid' is the law's where the arguments, and the package variables that the reading takes, are together of bulk at most 1048576: NARROWER than '..Said'. Prove '..Said' where nothing that the law and all that it calls make is longer than what came in: it says more and counts as full. Else prove '..UptoSaid'. A law counts once. -/
mutual
def uptoBulk {H : Type} : DataW H → Nat
  | .lit (.string bytes) => bytes.length + 1
  | .lit _ => 1
  | .nil => 1
  | .ptr d => uptoBulk d + 1
  | .slice elems spare => uptoBulkAll elems + uptoBulkAll spare + 1
  | .agg parts => uptoBulkAll parts + 1
  | .iface _ d => uptoBulk d + 1
  | .map entries => uptoBulkEntries entries + 1
  | .held _ => 1
def uptoBulkAll {H : Type} : List (DataW H) → Nat
  | [] => 0
  | d :: r => uptoBulk d + uptoBulkAll r
def uptoBulkEntries {H : Type} : List (Lit × DataW H) → Nat
  | [] => 0
  | x :: r => uptoBulkEntry x + uptoBulkEntries r
def uptoBulkEntry {H : Type} : Lit × DataW H → Nat
  | (.string bytes, d) => bytes.length + uptoBulk d + 1
  | (_, d) => uptoBulk d + 1
 end
def uptoSmall : (H : Type) → List (DataW H) → Bool := fun _ ds => decide (uptoBulkAll ds ≤ 1048576)
def OpenSpec.upto (s : _root_.Go.ChangeSpec) : _root_.Go.OpenSpec := { _root_.Go.OpenSpec.ofChange s with cond := some uptoSmall }

/-- 'tinsellaw16.OrderNames', WHERE WHAT IT READS IS OF BULK AT MOST 1048576: true; the input reads as it did. -/
def orderNamesUptoRow : OpenClaim := { program := "ytpobfjefkefadaadoor", sum := "2a3ffbb3bf5678a5f31d4c751f83de0ec056877fcb135d27c5338f1183e80c8f", func := "tinsel/tinsellaw16.OrderNames", spec := "orderNames", inPlace := ["internal/bytealg.Compare"], unfollowed := true, recurses := true, named := ["unicode/utf8.first", "unicode/utf8.acceptRanges"], apart := false, laid := [("unicode/utf8.acceptRanges", laid_unicode_utf8_acceptRanges), ("unicode/utf8.first", laid_unicode_utf8_first)], narrowed := true }
def OrderNamesUptoSaid : Prop := orderNamesUptoRow.holds Tryd.pinned (OpenSpec.upto orderNamesSpec)

/-- 'tinsellaw16.OrderKeys', WHERE WHAT IT READS IS OF BULK AT MOST 1048576: true; the input reads as it did. -/
def orderKeysUptoRow : OpenClaim := { program := "ytpobfjefkefadaadoor", sum := "2a3ffbb3bf5678a5f31d4c751f83de0ec056877fcb135d27c5338f1183e80c8f", func := "tinsel/tinsellaw16.OrderKeys", spec := "orderKeys", inPlace := ["internal/bytealg.Compare"], unfollowed := true, recurses := true, named := ["unicode/utf8.first", "unicode/utf8.acceptRanges"], apart := false, laid := [("unicode/utf8.acceptRanges", laid_unicode_utf8_acceptRanges), ("unicode/utf8.first", laid_unicode_utf8_first)], narrowed := true }
def OrderKeysUptoSaid : Prop := orderKeysUptoRow.holds Tryd.pinned (OpenSpec.upto orderKeysSpec)

/-- 'tinsellaw16.OrderParts', WHERE WHAT IT READS IS OF BULK AT MOST 1048576: true; the input reads as it did. -/
def orderPartsUptoRow : OpenClaim := { program := "ytpobfjefkefadaadoor", sum := "2a3ffbb3bf5678a5f31d4c751f83de0ec056877fcb135d27c5338f1183e80c8f", func := "tinsel/tinsellaw16.OrderParts", spec := "orderParts", inPlace := ["internal/bytealg.Compare"], unfollowed := true, recurses := true, named := ["unicode/utf8.first", "unicode/utf8.acceptRanges"], apart := false, laid := [("unicode/utf8.acceptRanges", laid_unicode_utf8_acceptRanges), ("unicode/utf8.first", laid_unicode_utf8_first)], narrowed := true }
def OrderPartsUptoSaid : Prop := orderPartsUptoRow.holds Tryd.pinned (OpenSpec.upto orderPartsSpec)

/-- 'tinsellaw16.OrderStands', WHERE WHAT IT READS IS OF BULK AT MOST 1048576: true; the input reads as it did. -/
def orderStandsUptoRow : OpenClaim := { program := "ytpobfjefkefadaadoor", sum := "2a3ffbb3bf5678a5f31d4c751f83de0ec056877fcb135d27c5338f1183e80c8f", func := "tinsel/tinsellaw16.OrderStands", spec := "orderStands", inPlace := ["internal/bytealg.Compare"], unfollowed := true, recurses := true, named := ["unicode/utf8.first", "unicode/utf8.acceptRanges"], apart := false, laid := [("unicode/utf8.acceptRanges", laid_unicode_utf8_acceptRanges), ("unicode/utf8.first", laid_unicode_utf8_first)], narrowed := true }
def OrderStandsUptoSaid : Prop := orderStandsUptoRow.holds Tryd.pinned (OpenSpec.upto orderStandsSpec)

/-- 'tinsellaw16.OrderMerges', WHERE WHAT IT READS IS OF BULK AT MOST 1048576: true; the input reads as it did. -/
def orderMergesUptoRow : OpenClaim := { program := "ytpobfjefkefadaadoor", sum := "2a3ffbb3bf5678a5f31d4c751f83de0ec056877fcb135d27c5338f1183e80c8f", func := "tinsel/tinsellaw16.OrderMerges", spec := "orderMerges", inPlace := ["internal/bytealg.Compare"], unfollowed := true, recurses := true, named := ["unicode/utf8.first", "unicode/utf8.acceptRanges"], apart := false, laid := [("unicode/utf8.acceptRanges", laid_unicode_utf8_acceptRanges), ("unicode/utf8.first", laid_unicode_utf8_first)], narrowed := true }
def OrderMergesUptoSaid : Prop := orderMergesUptoRow.holds Tryd.pinned (OpenSpec.upto orderMergesSpec)

/-- 'tinsellaw16.OrderUniqs', WHERE WHAT IT READS IS OF BULK AT MOST 1048576: true; the input reads as it did. -/
def orderUniqsUptoRow : OpenClaim := { program := "ytpobfjefkefadaadoor", sum := "2a3ffbb3bf5678a5f31d4c751f83de0ec056877fcb135d27c5338f1183e80c8f", func := "tinsel/tinsellaw16.OrderUniqs", spec := "orderUniqs", inPlace := ["internal/bytealg.Compare"], unfollowed := true, recurses := true, named := ["unicode/utf8.first", "unicode/utf8.acceptRanges"], apart := false, laid := [("unicode/utf8.acceptRanges", laid_unicode_utf8_acceptRanges), ("unicode/utf8.first", laid_unicode_utf8_first)], narrowed := true }
def OrderUniqsUptoSaid : Prop := orderUniqsUptoRow.holds Tryd.pinned (OpenSpec.upto orderUniqsSpec)

/-- 'tinsellaw16.OrderComms', WHERE WHAT IT READS IS OF BULK AT MOST 1048576: true; the input reads as it did. -/
def orderCommsUptoRow : OpenClaim := { program := "ytpobfjefkefadaadoor", sum := "2a3ffbb3bf5678a5f31d4c751f83de0ec056877fcb135d27c5338f1183e80c8f", func := "tinsel/tinsellaw16.OrderComms", spec := "orderComms", inPlace := ["internal/bytealg.Compare"], unfollowed := true, recurses := true, named := ["unicode/utf8.first", "unicode/utf8.acceptRanges"], apart := false, laid := [("unicode/utf8.acceptRanges", laid_unicode_utf8_acceptRanges), ("unicode/utf8.first", laid_unicode_utf8_first)], narrowed := true }
def OrderCommsUptoSaid : Prop := orderCommsUptoRow.holds Tryd.pinned (OpenSpec.upto orderCommsSpec)

/-- 'tinsellaw16.OrderHalves', WHERE WHAT IT READS IS OF BULK AT MOST 1048576: true; the input reads as it did. -/
def orderHalvesUptoRow : OpenClaim := { program := "ytpobfjefkefadaadoor", sum := "2a3ffbb3bf5678a5f31d4c751f83de0ec056877fcb135d27c5338f1183e80c8f", func := "tinsel/tinsellaw16.OrderHalves", spec := "orderHalves", inPlace := ["internal/bytealg.Compare"], unfollowed := true, recurses := true, named := ["unicode/utf8.first", "unicode/utf8.acceptRanges"], apart := false, laid := [("unicode/utf8.acceptRanges", laid_unicode_utf8_acceptRanges), ("unicode/utf8.first", laid_unicode_utf8_first)], narrowed := true }
def OrderHalvesUptoSaid : Prop := orderHalvesUptoRow.holds Tryd.pinned (OpenSpec.upto orderHalvesSpec)

/-- 'tinsellaw16.OrderJoins', WHERE WHAT IT READS IS OF BULK AT MOST 1048576: true; the input reads as it did. -/
def orderJoinsUptoRow : OpenClaim := { program := "ytpobfjefkefadaadoor", sum := "2a3ffbb3bf5678a5f31d4c751f83de0ec056877fcb135d27c5338f1183e80c8f", func := "tinsel/tinsellaw16.OrderJoins", spec := "orderJoins", inPlace := ["internal/bytealg.Compare", "internal/bytealg.MakeNoZero", "internal/bytealg.Count", "internal/bytealg.IndexByte", "internal/bytealg.Index"], unfollowed := true, recurses := true, named := ["unicode/utf8.first", "unicode/utf8.acceptRanges", "internal/bytealg.MaxLen"], apart := false, laid := [("unicode/utf8.acceptRanges", laid_unicode_utf8_acceptRanges), ("unicode/utf8.first", laid_unicode_utf8_first)], narrowed := true }
def OrderJoinsUptoSaid : Prop := orderJoinsUptoRow.holds Tryd.pinned (OpenSpec.upto orderJoinsSpec)

end Rows
end Go.Proofs.YtpobfjefkefadaaDoor
