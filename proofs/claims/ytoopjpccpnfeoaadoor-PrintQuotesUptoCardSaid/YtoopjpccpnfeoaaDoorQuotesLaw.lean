/- the law PrintQuotes is true for every text that the given upto-statement covers (what is read is of bulk at most 1048576), and never panics; its card. -/
import Derived.Test.YtoopjpccpnfeoaaDoorQuotesPlain
import Derived.Test.YtoopjpccpnfeoaaDoorEvQ5
import Derived.Test.YtoopjpccpnfeoaaDoorRows
import Derived.Test.YtoopjpccpnfeoaaDoorCards
import Derived.Test.YtoopjpccpnfeoaaDoorTie
import Derived.WalkKit
import Derived.ProofKit
import Derived.OpenShut
import Derived.ShutString
import Derived.ChangeOld
import Derived.Below
import Derived.SizedLaws
import Derived.Deep.CondSized
import Derived.JoinedCond
import Derived.Deep.DeepHandedRow
import Derived.Lib.LaidTab
import Derived.Lib.LaidIn
import Derived.Great.CaseRows
import Derived.Deep.DeepWitnessRowRef
set_option linter.unusedVariables false
set_option maxRecDepth 100000
namespace Go.Proofs.YtoopjpccpnfeoaaDoor.printQuotesUpto
open Go.ChangeShapes Go.WideShapes Go.ChangeAt Go.RowKit
open Go.Ev (open_arg again_all below_grown weights_cons shL)
theorem own : ownKnob Tryd.prog.godebug = none := by kernel_rfl
theorem bulk_one {H : Type} (d : DataW H) : 1 ≤ Rows.uptoBulk d := by
  cases d with
  | lit l => cases l <;> simp [Rows.uptoBulk]
  | _ => simp [Rows.uptoBulk]
theorem bulk_len {H : Type} (l : List (DataW H)) : l.length ≤ Rows.uptoBulkAll l := by
  induction l with
  | nil => simp [Rows.uptoBulkAll]
  | cons x r ih => have := bulk_one x; simp only [Rows.uptoBulkAll, List.length_cons]; omega
theorem bulk_sum {H : Type} : ∀ l : List (DataW H), Rows.uptoBulkAll l = (l.map Rows.uptoBulk).sum
  | [] => by simp [Rows.uptoBulkAll]
  | x :: r => by rw [Rows.uptoBulkAll, bulk_sum r]; rfl
theorem bulk_ok {H : Type} : Go.Ev.BulkOK (Rows.uptoBulk (H := H)) where
  pos := bulk_one
  str := fun s => by simp only [Rows.uptoBulk]; exact Nat.le_refl _
  slice := fun es ss => by simp only [Rows.uptoBulk, bulk_sum]; omega
  agg := fun ps => by simp only [Rows.uptoBulk, bulk_sum]; omega
/-- What is left to plain Lean: what the code computes is true. -/
def Pure : Prop := ∀ (a0 : ByteArray), a0.size ≤ 1048576 → Go.Ev.avBulks [(.v (.string a0))] ≤ 1048576 → ∃ k, Go.Proofs.Tryd.F3.go k a0 = some ((true, ()), (), ())
set_option maxRecDepth 100000 in
theorem walk (P : Pure) (a0 : ByteArray) (v0 : Value) (w : World) (hp : Go.Ev.ShpW w) (h0 : a0.size ≤ 1048576) (hbk : Go.Ev.avBulks [(.v (.string a0))] ≤ 1048576) (r0 : Go.Ev.Rep w (fun b => b < w.heap.size) 0 (fun _ => none) (.v (.string a0)) v0) : Calls Tryd.prog 3 #[v0] w fun e w' => e = .returned (.bool true) ∧ Below w.heap.size w w' := by
  obtain ⟨k, hk⟩ := P a0 h0 hbk
  refine Go.Ev.law_calls (Go.Proofs.Tryd.F3.ok k) rfl rfl rfl (x := ((a0, ()), (), ())) hk hp rfl ?_
  intro t y h
  match t, h with
  | 0, h =>
    have h : some ((.v (.string a0)) : Go.Ev.AV) = some y := h
    injection h with h; subst h; exact ⟨by decide, r0⟩
  | t + 1, h => have h : (none : Option Go.Ev.AV) = some y := h; cases h
/-- a table's cells -/
def flatD : Nat → DataW Unit → List Value
  | 0, _ => []
  | f + 1, .agg l => l.flatMap (flatD f)
  | _ + 1, .lit (.int k n) => [.int k n]
  | _ + 1, _ => []
noncomputable def layOne (h : Array Obj) (nd : String × DataW Unit) : Array Obj :=
  match Tryd.prog.globalNamed nd.1 with
  | some g => h.modify g (fun o => match o with
    | .cells _ t frozen => .cells (flatD 6 nd.2).toArray t frozen
    | o => o)
  | none => h
/-- A world for the witness: the settled one, the listed tables holding what their initialisers lay. -/
noncomputable def laidWorld (os : Os) : World :=
  { World.holding Tryd.prog os ⟨#[.cells (Lib.caseT.flatMap Lib.cells5).toArray 147], #[], []⟩ with heap := (List.foldl layOne (World.holding Tryd.prog os ⟨#[.cells (Lib.caseT.flatMap Lib.cells5).toArray 147], #[], []⟩).heap (Rows.printQuotesUptoRow.laid.take 4 ++ Rows.printQuotesUptoRow.laid.drop 5)).modify 4 (fun o => match o with
    | .cells _ t frozen => .cells #[.slice (some ⟨(World.settled Tryd.prog os).heap.size, 0, none⟩) Lib.caseT.length Lib.caseT.length] t frozen
    | o => o) }
noncomputable abbrev N0 : Nat := (World.settled Tryd.prog default).heap.size
theorem cty : Go.Great.CTypes Tryd.prog 137 147 145 115 21 := ⟨by kernel_rfl, by kernel_rfl, by kernel_rfl, by kernel_rfl, by kernel_rfl, by kernel_rfl, by kernel_rfl, by kernel_rfl, by kernel_rfl⟩
set_option maxRecDepth 1000000 in
theorem laid_eq : Rows.printQuotesUptoRow.laid = Rows.printQuotesUptoRow.laid.take 4 ++ [("unicode.CaseRanges", .slice (Lib.caseT.map Lib.rowData) [])] ++ Rows.printQuotesUptoRow.laid.drop 5 := by kernel_rfl
set_option maxRecDepth 1000000 in
theorem piece1 (os : Os) : LaidIn Tryd.prog ((laidWorld os).forCall (fun _ _ => 0) ⟨#[], #[.string ByteArray.empty], []⟩).memory (Rows.printQuotesUptoRow.laid.take 4) [5, 6, 3, 1] :=
  LaidIn.of_run [5, 6, 3, 1] 8 (by kernel_rfl) (by kernel_rfl) (by kernel_rfl) (by kernel_rfl)
set_option maxRecDepth 1000000 in
theorem piece2 (os : Os) : LaidIn Tryd.prog ((laidWorld os).forCall (fun _ _ => 0) ⟨#[], #[.string ByteArray.empty], []⟩).memory [("unicode.CaseRanges", .slice (Lib.caseT.map Lib.rowData) [])] [4, N0] :=
  Go.Great.laidIn_case cty (name := "unicode.CaseRanges") (g := 4) (B := N0) (tg := 137) (tb := 147) Lib.caseT (by kernel_rfl) (by kernel_rfl) (Nat.le_of_ble_eq_true (by kernel_rfl)) (by kernel_rfl) (by kernel_rfl) (by kernel_rfl) (Nat.ne_of_beq_eq_false (by kernel_rfl))
set_option maxRecDepth 1000000 in
theorem piece3 (os : Os) : LaidIn Tryd.prog ((laidWorld os).forCall (fun _ _ => 0) ⟨#[], #[.string ByteArray.empty], []⟩).memory (Rows.printQuotesUptoRow.laid.drop 5) [0] :=
  LaidIn.of_run [0] 8 (by kernel_rfl) (by kernel_rfl) (by kernel_rfl) (by kernel_rfl)
theorem laid_met (os : Os) : laidMet Tryd.prog Rows.printQuotesUptoRow.laid ((laidWorld os).forCall (fun _ _ => 0) ⟨#[], #[.string ByteArray.empty], []⟩).memory := by
  rw [laid_eq]
  exact (((piece1 os).append (piece2 os) (by kernel_rfl)).append (piece3 os) (by kernel_rfl)).met
set_option maxRecDepth 100000 in
theorem reads (os : Os) {H : Type} (enc : TypeId × Value → H) : ∃ places, DataW.whole enc Tryd.prog ((laidWorld os).forCall (fun _ _ => 0) ⟨#[], #[.string ByteArray.empty], []⟩).memory Tryd.f3.params.toList (Rows.OpenSpec.upto Rows.printQuotesSpec).vars false (#[.string ByteArray.empty] : Array Value).toList 8 = some ([.lit (.string [])], [], places) :=
  ⟨[], by kernel_rfl⟩
set_option maxRecDepth 100000 in
theorem lifted (P : Pure) (os : Os) (started : os.Started) (H : Type) (enc : TypeId × Value → H) (F : Stop.Interp) :
    ReturnsInHanded {} Tryd.checked os 3 .any ((Rows.OpenSpec.upto Rows.printQuotesSpec).preRow enc Tryd.prog Tryd.f3 Rows.printQuotesUptoRow.domain false Rows.printQuotesUptoRow.laid) (((Rows.OpenSpec.upto Rows.printQuotesSpec).at F).post enc Tryd.prog Tryd.f3 false true false false) := by
  obtain ⟨places, hx⟩ := reads os enc
  refine returnsInHanded_of_row (C := Tryd.checked) (s := (Rows.OpenSpec.upto Rows.printQuotesSpec)) own started (by kernel_rfl) Tryd.func3
    (witness_row_atRef (enc := enc) (C := Tryd.checked) false (laidWorld os) #[.string ByteArray.empty] rfl (by kernel_rfl) (by kernel_rfl) (by kernel_rfl)
      (OpenSpec.preRow_of_cond 8 hx (by kernel_rfl) (fun k hk => by cases hk; kernel_rfl) (by kernel_rfl) (laid_met os))) ?_
  intro W base args ds gs before hval0 hW hcnd hk0 hsz0 _ hsh _
  have hk := hk0 Rows.uptoSmall rfl
  have hsz : (DataW.weightsEach Tryd.prog (Tryd.f3.params.toList ++ Rows.printQuotesSpec.plain.varTypes Tryd.prog) (ds ++ gs)).all (· ≤ reachBytes) = true := hsz0
  have hval : ∀ (j : Nat) t v, Tryd.f3.params[j]? = some t → args[j]? = some v → Value.okWide Tryd.prog W .any base t v := hval0
  have hW' := hW
  obtain ⟨p, q, hA0, hV, rfl, hfz, hnd⟩ := hW
  have hA : DataW.TrodAll enc Tryd.prog W 0 (fun _ => true) true Tryd.f3.params.toList args.toList ds p := hA0
  rw [Tryd.params3] at hA hval hsz
  have hAll := hA
  obtain ⟨v0, vs0, d0, ds0, p0, q0, hargs, rfl, rfl, h0, r0⟩ := trodAll_cons hA
  obtain ⟨rfl, rfl, rfl⟩ := trodAll_nil r0
  obtain rfl : args = #[v0] := by cases args; simp_all
  obtain ⟨rfl, rfl⟩ := trodVars_none hV
  have z0 : (DataW.weightsEach Tryd.prog [9] [d0]).all (· ≤ reachBytes) = true := hsz
  obtain ⟨w0, z1⟩ := weights_cons z0
  obtain ⟨y0, f0, r0, k0⟩ := Go.Ev.open_argB (show shL Tryd.prog 30 9 = some .str by kernel_rfl) (hval 0 9 v0 rfl rfl) h0 w0 bulk_ok
  obtain ⟨a0, rfl, e0⟩ := f0
  have hk' : Rows.uptoBulkAll [d0] ≤ 1048576 := of_decide_eq_true hk
  simp only [Rows.uptoBulkAll] at hk'
  have b0 : a0.size ≤ 1048576 := by
    have q := Go.Ev.str_dat Tryd.underlying9 h0 r0
    have g : Rows.uptoBulk d0 ≤ 1048576 := by omega
    rw [q] at g
    simp only [Rows.uptoBulk, Array.length_toList] at g
    have e : a0.data.size = a0.size := rfl
    omega
  have hbk : Go.Ev.avBulks [(.v (.string a0))] ≤ 1048576 := by
    simp only [Go.Ev.avBulks]
    omega
  clear hA0 hval0 hsz0 hsz
  refine (walk P a0 v0 W (Tryd.shpW W hsh) b0 hbk r0).mono fun e W' ⟨he, bel⟩ => ?_
  subst he
  exact ⟨_, rfl, _, _, _, [], _, [], hW', trodAll_mk1 (shut_bool Tryd.underlying4 _), again_all (below_grown bel) (by kernel_rfl) hAll, rfl, bel.frame _, fun h => by cases h⟩
theorem over (P : Pure) : Rows.printQuotesUptoRow.holds Tryd.pinned (Rows.OpenSpec.upto Rows.printQuotesSpec) :=
  OpenClaim.holds_of_cond 3 Tryd.f3 rfl rfl rfl rfl rfl rfl rfl ⟨rfl, rfl, rfl, rfl, rfl⟩ rfl rfl rfl rfl rfl (by kernel_rfl) Tryd.func3 (by kernel_rfl)
    (of_decide_eq_true (by kernel_rfl)) (by unfold Func.isWrapper; first | (rw [if_pos (by decide +kernel)]; kernel_rfl) | (rw [if_neg (by decide +kernel)]; exact ⟨rfl, rfl⟩))
    (fun os started H enc _ F => by rw [OpenClaim.pre_eq_preRow]; exact lifted P os started H enc F)
/-- No parameter wants a stand-in; the program's own looks are off: what the card asks. -/
theorem plain (f : FuncId) (fn : Func) (hf : Tryd.pinned.checked.prog.funcNamed "tinsel/tinsellaw21.PrintQuotes" = some f) (hfn : Tryd.pinned.checked.prog.funcs[f]? = some fn) :
    false = Tryd.pinned.checked.prog.looks [] ∧ ∀ (j : Nat) t, fn.params[j]? = some t → Tryd.pinned.checked.prog.wantsStandIn t = false := by
  obtain rfl : f = 3 := Option.some.inj ((show Tryd.prog.funcNamed "tinsel/tinsellaw21.PrintQuotes" = some 3 by kernel_rfl).symm.trans hf) |>.symm
  obtain rfl : fn = Tryd.f3 := (Option.some.inj (Tryd.func3.symm.trans hfn)).symm
  refine ⟨by kernel_rfl, fun j t ht => ?_⟩
  rw [Tryd.params3] at ht
  have hm := Array.mem_of_getElem? ht
  have hm : t = 9 := by simpa using hm
  rcases hm with rfl
  · exact (show Tryd.prog.wantsStandIn 9 = false by kernel_rfl)
theorem card_of_pure (P : Pure) : Rows.PrintQuotesUptoCardSaid :=
  Claim7.holds_tied_plain_at .later [] _ _ _ _ (over P) (fun _ h => by cases h) (by kernel_rfl) (fun _ h => by cases h) printQuotesUpto_row_tie rfl ⟨rfl, rfl⟩ (by kernel_rfl) rfl plain (by kernel_rfl)
end Go.Proofs.YtoopjpccpnfeoaaDoor.printQuotesUpto

namespace Go.Proofs.YtoopjpccpnfeoaaDoor
theorem printQuotesUptoCardTrue : Rows.PrintQuotesUptoCardSaid := printQuotesUpto.card_of_pure fun a0 h0 h1 => Tryd.S.printQuotes' a0 h0
end Go.Proofs.YtoopjpccpnfeoaaDoor
