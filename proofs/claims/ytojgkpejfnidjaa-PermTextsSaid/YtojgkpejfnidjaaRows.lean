/-
  No cell of these rows narrows 'for every input' (looked for: loops, veiled, ifaces, maps, wideKeys, modest, calm, conditions, laid).
  DERIVED. THE GIVEN ROWS OF THIS SEAT. 4 by the template 'for every input the law returns true; each argument reads behind the call as it read before'; 0 by the template 'total and deterministic' (their statements: YtojgkpejfnidjaaTotals.lean).
  GIVEN WITH THE SEED: the statements are not yours to turn. If you find one false, say at which input.
  Laid BY PROGRAM, IN A SANDBOX (cutbox-rows.mjs): the forced cells as the released guide's own fill.sh prints them over the translation 9170c113250946b1… (all of the seat's roots in one cut). By AI agents, Wed Nov 11 2026. No macro, syntax, notation, axiom, sorry.
-/
import Derived.Test.YtojgkpejfnidjaaChecked
import GoSem.Claim
import GoSem.ClaimJoined
import GoSem.ClaimMapViews
import Derived.JoinedTies
import Derived.KernelRfl
namespace Go.Proofs.Ytojgkpejfnidjaa
/- THE CELL 'sum', in the pinned program and in every row, IS THE sha256 OF THE DUMP (.gsa) THAT YtojgkpejfnidjaaProg.lean LOADS. Nothing in Lean hashes anything: it is a label: what it is worth is what the hold of that sum in a sandbox is worth. -/
noncomputable def Try.pinned : Pinned := { name := "ytojgkpejfnidjaa", sum := "9170c113250946b152a1f8e12e5777c01cc17091bbd3ca40e5f4fc53fb874ff3", checked := Try.checked }
namespace Rows
def none {H : Type} : Left H := { results := [], args := [] }

/-- 'tinsellaw05.PermChanges': WHATEVER THE INPUT: true; the input reads as it did. -/
def permChangesSpec : ChangeSpec := { name := "permChanges", fn := fun _ => fun
  | [d1, d2, d3] => { results := [.lit (.bool true)], args := [d1, d2, d3] }
  | _ => none }
def permChangesRow : OpenClaim := { program := "ytojgkpejfnidjaa", sum := "9170c113250946b152a1f8e12e5777c01cc17091bbd3ca40e5f4fc53fb874ff3", func := "tinsel/tinsellaw05.PermChanges", spec := "permChanges", unfollowed := true, recurses := true, apart := false }
def PermChangesSaid : Prop := permChangesRow.holds Try.pinned (OpenSpec.ofChange permChangesSpec)

/-- ITS FALSE NEIGHBOUR: 'it returns false'. Refute it at one input. -/
def permChangesWrong : ChangeSpec := { name := "permChanges", fn := fun _ => fun
  | [d1, d2, d3] => { results := [.lit (.bool false)], args := [d1, d2, d3] }
  | _ => none }
def PermChangesWrongFalsely : Prop := permChangesRow.holds Try.pinned (OpenSpec.ofChange permChangesWrong)

/-- 'tinsellaw05.PermAllows': WHATEVER THE INPUT: true; the input reads as it did. -/
def permAllowsSpec : ChangeSpec := { name := "permAllows", fn := fun _ => fun
  | [d1, d2] => { results := [.lit (.bool true)], args := [d1, d2] }
  | _ => none }
def permAllowsRow : OpenClaim := { program := "ytojgkpejfnidjaa", sum := "9170c113250946b152a1f8e12e5777c01cc17091bbd3ca40e5f4fc53fb874ff3", func := "tinsel/tinsellaw05.PermAllows", spec := "permAllows", unfollowed := true, recurses := true, apart := false }
def PermAllowsSaid : Prop := permAllowsRow.holds Try.pinned (OpenSpec.ofChange permAllowsSpec)

/-- ITS FALSE NEIGHBOUR: 'it returns false'. Refute it at one input. -/
def permAllowsWrong : ChangeSpec := { name := "permAllows", fn := fun _ => fun
  | [d1, d2] => { results := [.lit (.bool false)], args := [d1, d2] }
  | _ => none }
def PermAllowsWrongFalsely : Prop := permAllowsRow.holds Try.pinned (OpenSpec.ofChange permAllowsWrong)

/-- 'tinsellaw05.PermTexts': WHATEVER THE INPUT: true; the input reads as it did. -/
def permTextsSpec : ChangeSpec := { name := "permTexts", fn := fun _ => fun
  | [d1, d2] => { results := [.lit (.bool true)], args := [d1, d2] }
  | _ => none }
def permTextsRow : OpenClaim := { program := "ytojgkpejfnidjaa", sum := "9170c113250946b152a1f8e12e5777c01cc17091bbd3ca40e5f4fc53fb874ff3", func := "tinsel/tinsellaw05.PermTexts", spec := "permTexts", unfollowed := true, recurses := true, apart := false }
def PermTextsSaid : Prop := permTextsRow.holds Try.pinned (OpenSpec.ofChange permTextsSpec)

/-- ITS FALSE NEIGHBOUR: 'it returns false'. Refute it at one input. -/
def permTextsWrong : ChangeSpec := { name := "permTexts", fn := fun _ => fun
  | [d1, d2] => { results := [.lit (.bool false)], args := [d1, d2] }
  | _ => none }
def PermTextsWrongFalsely : Prop := permTextsRow.holds Try.pinned (OpenSpec.ofChange permTextsWrong)

/-- 'tinsellaw05.PermBack': WHATEVER THE INPUT: true; the input reads as it did. -/
def permBackSpec : ChangeSpec := { name := "permBack", fn := fun _ => fun
  | [d1, d2] => { results := [.lit (.bool true)], args := [d1, d2] }
  | _ => none }
def permBackRow : OpenClaim := { program := "ytojgkpejfnidjaa", sum := "9170c113250946b152a1f8e12e5777c01cc17091bbd3ca40e5f4fc53fb874ff3", func := "tinsel/tinsellaw05.PermBack", spec := "permBack", unfollowed := true, recurses := true, apart := false }
def PermBackSaid : Prop := permBackRow.holds Try.pinned (OpenSpec.ofChange permBackSpec)

/-- ITS FALSE NEIGHBOUR: 'it returns false'. Refute it at one input. -/
def permBackWrong : ChangeSpec := { name := "permBack", fn := fun _ => fun
  | [d1, d2] => { results := [.lit (.bool false)], args := [d1, d2] }
  | _ => none }
def PermBackWrongFalsely : Prop := permBackRow.holds Try.pinned (OpenSpec.ofChange permBackWrong)

/- THE SECOND FORM. 'bulk': how many values and letters a reading holds, each counted each time it is reached (what is shared counts as often as it is met; a slice's spare places count too). A statement '..UptoSaid' is the law's where the arguments, and the package variables that the reading takes, are together of bulk at most 1048576: NARROWER than '..Said'. Prove '..Said' where nothing that the law and all that it calls make is longer than what came in: it says more and counts as full. Else prove '..UptoSaid'. A law counts once. -/
mutual
def uptoBulk {H : Type} : DataW H → Nat
  | .lit (.string bytes) => bytes.length + 1
  | .lit _ => 1
  | .nil => 1
  | .ptr d => uptoBulk d + 1
  | .slice elems spare => uptoBulkAll elems + uptoBulkAll spare + 1
  | .agg parts => uptoBulkAll parts + 1
  | .iface _ d => uptoBulk d + 1
  | .map entries => uptoBulkEntries entries + 1
  | .held _ => 1
def uptoBulkAll {H : Type} : List (DataW H) → Nat
  | [] => 0
  | d :: r => uptoBulk d + uptoBulkAll r
def uptoBulkEntries {H : Type} : List (Lit × DataW H) → Nat
  | [] => 0
  | x :: r => uptoBulkEntry x + uptoBulkEntries r
def uptoBulkEntry {H : Type} : Lit × DataW H → Nat
  | (.string bytes, d) => bytes.length + uptoBulk d + 1
  | (_, d) => uptoBulk d + 1
 end
def uptoSmall : (H : Type) → List (DataW H) → Bool := fun _ ds => decide (uptoBulkAll ds ≤ 1048576)
def OpenSpec.upto (s : _root_.Go.ChangeSpec) : _root_.Go.OpenSpec := { _root_.Go.OpenSpec.ofChange s with cond := some uptoSmall }

/-- 'tinsellaw05.PermChanges', WHERE WHAT IT READS IS OF BULK AT MOST 1048576: true; the input reads as it did. -/
def permChangesUptoRow : OpenClaim := { program := "ytojgkpejfnidjaa", sum := "9170c113250946b152a1f8e12e5777c01cc17091bbd3ca40e5f4fc53fb874ff3", func := "tinsel/tinsellaw05.PermChanges", spec := "permChanges", unfollowed := true, recurses := true, apart := false, narrowed := true }
def PermChangesUptoSaid : Prop := permChangesUptoRow.holds Try.pinned (OpenSpec.upto permChangesSpec)

/-- 'tinsellaw05.PermAllows', WHERE WHAT IT READS IS OF BULK AT MOST 1048576: true; the input reads as it did. -/
def permAllowsUptoRow : OpenClaim := { program := "ytojgkpejfnidjaa", sum := "9170c113250946b152a1f8e12e5777c01cc17091bbd3ca40e5f4fc53fb874ff3", func := "tinsel/tinsellaw05.PermAllows", spec := "permAllows", unfollowed := true, recurses := true, apart := false, narrowed := true }
def PermAllowsUptoSaid : Prop := permAllowsUptoRow.holds Try.pinned (OpenSpec.upto permAllowsSpec)

/-- 'tinsellaw05.PermTexts', WHERE WHAT IT READS IS OF BULK AT MOST 1048576: true; the input reads as it did. -/
def permTextsUptoRow : OpenClaim := { program := "ytojgkpejfnidjaa", sum := "9170c113250946b152a1f8e12e5777c01cc17091bbd3ca40e5f4fc53fb874ff3", func := "tinsel/tinsellaw05.PermTexts", spec := "permTexts", unfollowed := true, recurses := true, apart := false, narrowed := true }
def PermTextsUptoSaid : Prop := permTextsUptoRow.holds Try.pinned (OpenSpec.upto permTextsSpec)

/-- 'tinsellaw05.PermBack', WHERE WHAT IT READS IS OF BULK AT MOST 1048576: true; the input reads as it did. -/
def permBackUptoRow : OpenClaim := { program := "ytojgkpejfnidjaa", sum := "9170c113250946b152a1f8e12e5777c01cc17091bbd3ca40e5f4fc53fb874ff3", func := "tinsel/tinsellaw05.PermBack", spec := "permBack", unfollowed := true, recurses := true, apart := false, narrowed := true }
def PermBackUptoSaid : Prop := permBackUptoRow.holds Try.pinned (OpenSpec.upto permBackSpec)

end Rows
end Go.Proofs.Ytojgkpejfnidjaa
