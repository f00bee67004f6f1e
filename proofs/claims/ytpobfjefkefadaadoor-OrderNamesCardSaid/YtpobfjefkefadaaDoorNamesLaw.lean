/- OrderNames: the flags have the document's numbers, and the document's examples live. -/
import Derived.Test.YtpobfjefkefadaaDoorNamesPlain
import Derived.Test.YtpobfjefkefadaaDoorEv5
import Derived.Test.YtpobfjefkefadaaDoorRows
import Derived.Test.YtpobfjefkefadaaDoorCards
import Derived.Test.YtpobfjefkefadaaDoorTie
import Derived.WalkKit
import Derived.ProofKit
import Derived.OpenShut
import Derived.ShutString
import Derived.ChangeOld
import Derived.Below
import Derived.SizedLaws
import Derived.Deep.CondSized
import Derived.JoinedCond
import Derived.Deep.DeepHandedRow
import Derived.Lib.LaidTab
set_option linter.unusedVariables false
set_option maxRecDepth 100000
namespace Go.Proofs.YtpobfjefkefadaaDoor.orderNames
open Go.ChangeShapes Go.WideShapes Go.ChangeAt Go.RowKit
open Go.Ev (open_arg again_all below_grown weights_cons shL)
theorem own : ownKnob Tryd.prog.godebug = none := by kernel_rfl
/-- What is left to plain Lean: what the code computes is true. -/
def Pure : Prop := ∃ k, Go.Proofs.Tryd.F3.go k = some ((true, ()), (), ())
set_option maxRecDepth 100000 in
theorem walk (P : Pure)   (w : World) (hp : Go.Ev.ShpW w)   : Calls Tryd.prog 3 #[] w fun e w' => e = .returned (.bool true) ∧ Below w.heap.size w w' := by
  obtain ⟨k, hk⟩ := P  
  refine Go.Ev.law_calls (Go.Proofs.Tryd.F3.ok k) rfl rfl rfl (x := ((()), (), ())) hk hp rfl ?_
  intro t y h
  have h : (none : Option Go.Ev.AV) = some y := h; cases h
/-- a table's cells -/
def flatD : Nat → DataW Unit → List Value
  | 0, _ => []
  | f + 1, .agg l => l.flatMap (flatD f)
  | _ + 1, .lit (.int k n) => [.int k n]
  | _ + 1, _ => []
noncomputable def layOne (h : Array Obj) (nd : String × DataW Unit) : Array Obj :=
  match Tryd.prog.globalNamed nd.1 with
  | some g => h.modify g (fun o => match o with
    | .cells _ t frozen => .cells (flatD 6 nd.2).toArray t frozen
    | o => o)
  | none => h
/-- A world for the witness: the settled one, the listed tables holding what their initialisers lay. -/
noncomputable def laidWorld (os : Os) : World :=
  { World.holding Tryd.prog os ⟨#[], #[], []⟩ with heap := List.foldl layOne (World.holding Tryd.prog os ⟨#[], #[], []⟩).heap Rows.orderNamesRow.laid }
set_option maxRecDepth 100000 in
theorem laid_met (os : Os) : laidMet Tryd.prog Rows.orderNamesRow.laid ((laidWorld os).forCall (fun _ _ => 0) ⟨#[], #[], []⟩).memory :=
  laidMet_of_run' 8 (by kernel_rfl) (by kernel_rfl)
set_option maxRecDepth 100000 in
theorem reads (os : Os) {H : Type} (enc : TypeId × Value → H) : ∃ places, DataW.whole enc Tryd.prog ((laidWorld os).forCall (fun _ _ => 0) ⟨#[], #[], []⟩).memory Tryd.f3.params.toList (OpenSpec.ofChange Rows.orderNamesSpec).vars false (#[] : Array Value).toList 8 = some ([], [], places) :=
  ⟨[], by kernel_rfl⟩
set_option maxRecDepth 100000 in
theorem lifted (P : Pure) (os : Os) (started : os.Started) (H : Type) (enc : TypeId × Value → H) (F : Stop.Interp) :
    ReturnsInHanded {} Tryd.checked os 3 .any ((OpenSpec.ofChange Rows.orderNamesSpec).preRow enc Tryd.prog Tryd.f3 Rows.orderNamesRow.domain false Rows.orderNamesRow.laid) (((OpenSpec.ofChange Rows.orderNamesSpec).at F).post enc Tryd.prog Tryd.f3 false true false false) := by
  obtain ⟨places, hx⟩ := reads os enc
  refine returnsInHanded_of_row (C := Tryd.checked) (s := (OpenSpec.ofChange Rows.orderNamesSpec)) own started (by kernel_rfl) Tryd.func3
    (witness_row_at (enc := enc) (C := Tryd.checked) false (laidWorld os) #[] rfl (by kernel_rfl) (by kernel_rfl) (by kernel_rfl)
      (OpenSpec.preRow_of_cond 8 hx (by kernel_rfl) (fun k hk => by cases hk) (by kernel_rfl) (laid_met os))) ?_
  intro W base args ds gs before hval0 hW hcnd hk0 hsz0 _ hsh _
  have hsz : (DataW.weightsEach Tryd.prog (Tryd.f3.params.toList ++ Rows.orderNamesSpec.plain.varTypes Tryd.prog) (ds ++ gs)).all (· ≤ reachBytes) = true := hsz0
  have hval : ∀ (j : Nat) t v, Tryd.f3.params[j]? = some t → args[j]? = some v → Value.okWide Tryd.prog W .any base t v := hval0
  have hW' := hW
  obtain ⟨p, q, hA0, hV, rfl, hfz, hnd⟩ := hW
  have hA : DataW.TrodAll enc Tryd.prog W 0 (fun _ => true) true Tryd.f3.params.toList args.toList ds p := hA0
  rw [Tryd.params3] at hA hval hsz
  have hAll := hA
  obtain ⟨rfl, rfl, rfl⟩ := trodAll_none hA
  obtain ⟨rfl, rfl⟩ := trodVars_none hV
  clear hA0 hval0 hsz0 hsz
  refine (walk P   W (Tryd.shpW W hsh)  ).mono fun e W' ⟨he, bel⟩ => ?_
  subst he
  exact ⟨_, rfl, _, _, _, [], _, [], hW', trodAll_mk1 (shut_bool Tryd.underlying4 _), again_all (below_grown bel) (by kernel_rfl) hAll, rfl, bel.frame _, fun h => by cases h⟩
theorem over (P : Pure) : Rows.orderNamesRow.holds Tryd.pinned (OpenSpec.ofChange Rows.orderNamesSpec) :=
  OpenClaim.holds_of_cond 3 Tryd.f3 rfl rfl rfl rfl rfl rfl rfl ⟨rfl, rfl, rfl, rfl, rfl⟩ rfl rfl rfl rfl rfl (by kernel_rfl) Tryd.func3 (by kernel_rfl)
    (of_decide_eq_true (by kernel_rfl)) (by unfold Func.isWrapper; first | (rw [if_pos (by decide +kernel)]; kernel_rfl) | (rw [if_neg (by decide +kernel)]; exact ⟨rfl, rfl⟩))
    (fun os started H enc _ F => by rw [OpenClaim.pre_eq_preRow]; exact lifted P os started H enc F)
/-- No parameter wants a stand-in; the program's own looks are off: what the card asks. -/
theorem plain (f : FuncId) (fn : Func) (hf : Tryd.pinned.checked.prog.funcNamed "tinsel/tinsellaw16.OrderNames" = some f) (hfn : Tryd.pinned.checked.prog.funcs[f]? = some fn) :
    false = Tryd.pinned.checked.prog.looks [] ∧ ∀ (j : Nat) t, fn.params[j]? = some t → Tryd.pinned.checked.prog.wantsStandIn t = false := by
  obtain rfl : f = 3 := Option.some.inj ((show Tryd.prog.funcNamed "tinsel/tinsellaw16.OrderNames" = some 3 by kernel_rfl).symm.trans hf) |>.symm
  obtain rfl : fn = Tryd.f3 := (Option.some.inj (Tryd.func3.symm.trans hfn)).symm
  refine ⟨by kernel_rfl, fun j t ht => ?_⟩
  rw [Tryd.params3] at ht
  exact absurd (Array.mem_of_getElem? ht) (by simp)
theorem card_of_pure (P : Pure) : Rows.OrderNamesCardSaid :=
  Claim7.holds_tied_plain_at .later [] _ _ _ _ (over P) (fun _ h => by cases h) (by kernel_rfl) (fun _ h => by cases h) orderNames_row_tie rfl ⟨rfl, rfl⟩ (by kernel_rfl) rfl plain (by kernel_rfl)
end Go.Proofs.YtpobfjefkefadaaDoor.orderNames

namespace Go.Proofs.YtpobfjefkefadaaDoor
theorem orderNamesCardTrue : Rows.OrderNamesCardSaid := orderNames.card_of_pure ⟨0, Tryd.S.orderNames 0⟩
end Go.Proofs.YtpobfjefkefadaaDoor
