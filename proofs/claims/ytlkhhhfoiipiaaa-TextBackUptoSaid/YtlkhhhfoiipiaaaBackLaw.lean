/- text's law TextBack is true for every text and number that the given upto-statement covers (what is read is of bulk at most 1048576), and never panics. -/
import Derived.Test.YtlkhhhfoiipiaaaBackPlain
import Derived.Test.YtlkhhhfoiipiaaaEv4
import Derived.Test.YtlkhhhfoiipiaaaRows
import Derived.WalkKit
import Derived.ProofKit
import Derived.OpenShut
import Derived.ShutString
import Derived.ChangeOld
import Derived.Below
import Derived.SizedLaws
import Derived.Deep.CondSized
import Derived.JoinedCond
import Derived.Deep.DeepHandedRow
import Derived.Lib.LaidTab
set_option linter.unusedVariables false
set_option maxRecDepth 100000
namespace Go.Proofs.Ytlkhhhfoiipiaaa.textBackUpto
open Go.ChangeShapes Go.WideShapes Go.ChangeAt Go.RowKit
open Go.Ev (open_arg again_all below_grown weights_cons shL)
theorem own : ownKnob Try.prog.godebug = none := by kernel_rfl
theorem bulk_one {H : Type} (d : DataW H) : 1 ≤ Rows.uptoBulk d := by
  cases d with
  | lit l => cases l <;> simp [Rows.uptoBulk]
  | _ => simp [Rows.uptoBulk]
theorem bulk_len {H : Type} (l : List (DataW H)) : l.length ≤ Rows.uptoBulkAll l := by
  induction l with
  | nil => simp [Rows.uptoBulkAll]
  | cons x r ih => have := bulk_one x; simp only [Rows.uptoBulkAll, List.length_cons]; omega
theorem bulk_sum {H : Type} : ∀ l : List (DataW H), Rows.uptoBulkAll l = (l.map Rows.uptoBulk).sum
  | [] => by simp [Rows.uptoBulkAll]
  | x :: r => by rw [Rows.uptoBulkAll, bulk_sum r]; rfl
theorem bulk_ok {H : Type} : Go.Ev.BulkOK (Rows.uptoBulk (H := H)) where
  pos := bulk_one
  str := fun s => by simp only [Rows.uptoBulk]; exact Nat.le_refl _
  slice := fun es ss => by simp only [Rows.uptoBulk, bulk_sum]; omega
  agg := fun ps => by simp only [Rows.uptoBulk, bulk_sum]; omega
/-- What is left to plain Lean: what the code computes is true. -/
def Pure : Prop := ∀ (a0 : List Int) (a1 : Int), (a0.length ≤ 1048576 ∧ ∀ n ∈ a0, (Lit.int .u8 n).wf = true) → (Lit.int .u64 a1).wf = true → Go.Ev.avBulks [(.ro false (.I .u8 a0)), (.v (.int .u64 a1))] ≤ 1048576 → ∃ k, Go.Proofs.Try.F9.go k a0 a1 = some (Sum.inl ((true, ()), (), ()))
set_option maxRecDepth 100000 in
theorem walk (P : Pure) (a0 : List Int) (a1 : Int) (v0 v1 : Value) (w : World) (hp : Go.Ev.ShpW w) (h0 : (a0.length ≤ 1048576 ∧ ∀ n ∈ a0, (Lit.int .u8 n).wf = true)) (h1 : (Lit.int .u64 a1).wf = true) (hbk : Go.Ev.avBulks [(.ro false (.I .u8 a0)), (.v (.int .u64 a1))] ≤ 1048576) (r0 : Go.Ev.Rep w (fun b => b < w.heap.size) 0 (fun _ => none) (.ro false (.I .u8 a0)) v0) (r1 : Go.Ev.Rep w (fun b => b < w.heap.size) 0 (fun _ => none) (.v (.int .u64 a1)) v1) : Calls Try.prog 9 #[v0, v1] w fun e w' => e = .returned (.bool true) ∧ Below w.heap.size w w' := by
  obtain ⟨k, hk⟩ := P a0 a1 h0 h1 hbk
  refine Go.Ev.law_calls2 (Go.Proofs.Try.F9.ok k) rfl rfl rfl (x := ((a0, a1, ()), (), ())) hk hp rfl ?_
  intro t y h
  match t, h with
  | 0, h =>
    have h : some ((.ro false (.I .u8 a0)) : Go.Ev.AV) = some y := h
    injection h with h; subst h; exact ⟨by decide, r0⟩
  | 1, h =>
    have h : some ((.v (.int .u64 a1)) : Go.Ev.AV) = some y := h
    injection h with h; subst h; exact ⟨by decide, r1⟩
  | t + 2, h => have h : (none : Option Go.Ev.AV) = some y := h; cases h
/-- a table's cells -/
def flatD : Nat → DataW Unit → List Value
  | 0, _ => []
  | f + 1, .agg l => l.flatMap (flatD f)
  | _ + 1, .lit (.int k n) => [.int k n]
  | _ + 1, _ => []
noncomputable def layOne (h : Array Obj) (nd : String × DataW Unit) : Array Obj :=
  match Try.prog.globalNamed nd.1 with
  | some g => h.modify g (fun o => match o with
    | .cells _ t frozen => .cells (flatD 6 nd.2).toArray t frozen
    | o => o)
  | none => h
/-- A world for the witness: the settled one, the listed tables holding what their initialisers lay. -/
noncomputable def laidWorld (os : Os) : World :=
  { World.holding Try.prog os ⟨#[], #[], []⟩ with heap := List.foldl layOne (World.holding Try.prog os ⟨#[], #[], []⟩).heap Rows.textBackUptoRow.laid }
set_option maxRecDepth 100000 in
theorem laid_met (os : Os) : laidMet Try.prog Rows.textBackUptoRow.laid ((laidWorld os).forCall (fun _ _ => 0) ⟨#[], #[.slice none 0 0, .int .u64 0], []⟩).memory :=
  laidMet_of_run' 8 (by kernel_rfl) (by kernel_rfl)
set_option maxRecDepth 100000 in
theorem reads (os : Os) {H : Type} (enc : TypeId × Value → H) : ∃ places, DataW.whole enc Try.prog ((laidWorld os).forCall (fun _ _ => 0) ⟨#[], #[.slice none 0 0, .int .u64 0], []⟩).memory Try.f9.params.toList (Rows.OpenSpec.upto Rows.textBackSpec).vars false (#[.slice none 0 0, .int .u64 0] : Array Value).toList 8 = some ([.nil, .lit (.int .u64 0)], [], places) :=
  ⟨[], by kernel_rfl⟩
set_option maxRecDepth 100000 in
theorem lifted (P : Pure) (os : Os) (started : os.Started) (H : Type) (enc : TypeId × Value → H) (F : Stop.Interp) :
    ReturnsInHanded {} Try.checked os 9 .any ((Rows.OpenSpec.upto Rows.textBackSpec).preRow enc Try.prog Try.f9 Rows.textBackUptoRow.domain false Rows.textBackUptoRow.laid) (((Rows.OpenSpec.upto Rows.textBackSpec).at F).post enc Try.prog Try.f9 false true false false) := by
  obtain ⟨places, hx⟩ := reads os enc
  refine returnsInHanded_of_row (C := Try.checked) (s := (Rows.OpenSpec.upto Rows.textBackSpec)) own started (by kernel_rfl) Try.func9
    (witness_row_at (enc := enc) (C := Try.checked) false (laidWorld os) #[.slice none 0 0, .int .u64 0] rfl (by kernel_rfl) (by kernel_rfl) (by kernel_rfl)
      (OpenSpec.preRow_of_cond 8 hx (by kernel_rfl) (fun k hk => by cases hk; kernel_rfl) (by kernel_rfl) (laid_met os))) ?_
  intro W base args ds gs before hval0 hW hcnd hk0 hsz0 _ hsh _
  have hk := hk0 Rows.uptoSmall rfl
  have hsz : (DataW.weightsEach Try.prog (Try.f9.params.toList ++ Rows.textBackSpec.plain.varTypes Try.prog) (ds ++ gs)).all (· ≤ reachBytes) = true := hsz0
  have hval : ∀ (j : Nat) t v, Try.f9.params[j]? = some t → args[j]? = some v → Value.okWide Try.prog W .any base t v := hval0
  have hW' := hW
  obtain ⟨p, q, hA0, hV, rfl, hfz, hnd⟩ := hW
  have hA : DataW.TrodAll enc Try.prog W 0 (fun _ => true) true Try.f9.params.toList args.toList ds p := hA0
  rw [Try.params9] at hA hval hsz
  have hAll := hA
  obtain ⟨v0, vs0, d0, ds0, p0, q0, hargs, rfl, rfl, h0, r0⟩ := trodAll_cons hA
  obtain ⟨v1, vs1, d1, ds1, p1, q1, rfl, rfl, rfl, h1, r1⟩ := trodAll_cons r0
  obtain ⟨rfl, rfl, rfl⟩ := trodAll_nil r1
  obtain rfl : args = #[v0, v1] := by cases args; simp_all
  obtain ⟨rfl, rfl⟩ := trodVars_none hV
  have z0 : (DataW.weightsEach Try.prog [22, 59] [d0, d1]).all (· ≤ reachBytes) = true := hsz
  obtain ⟨w0, z1⟩ := weights_cons z0
  obtain ⟨w1, z2⟩ := weights_cons z1
  obtain ⟨y0, f0, r0, k0⟩ := Go.Ev.open_argB (show shL Try.prog 30 22 = some (.roI false .u8) by kernel_rfl) (hval 0 22 v0 rfl rfl) h0 w0 bulk_ok
  obtain ⟨a0, rfl, e0⟩ := f0
  obtain ⟨y1, f1, r1, k1⟩ := Go.Ev.open_argB (show shL Try.prog 30 59 = some (.int .u64) by kernel_rfl) (hval 1 59 v1 rfl rfl) h1 w1 bulk_ok
  obtain ⟨a1, rfl, e1⟩ := f1
  have hk' : Rows.uptoBulkAll [d0, d1] ≤ 1048576 := of_decide_eq_true hk
  simp only [Rows.uptoBulkAll] at hk'
  have b0 : a0.length ≤ 1048576 := by
    have g : Rows.uptoBulk d0 ≤ 1048576 := by omega
    rcases Go.Ev.slice_dat Try.underlying22 h0 r0 with ⟨_, z⟩ | ⟨es, ss, hd, z⟩
    · have z : a0.length = 0 := z
      omega
    · rw [hd] at g
      have z : a0.length = es.length := z
      have := bulk_len es
      simp only [Rows.uptoBulk] at g
      omega
  have hbk : Go.Ev.avBulks [(.ro false (.I .u8 a0)), (.v (.int .u64 a1))] ≤ 1048576 := by
    simp only [Go.Ev.avBulks]
    omega
  clear hA0 hval0 hsz0 hsz
  refine (walk P a0 a1 v0 v1 W (Try.shpW W hsh) ⟨b0, e0.2⟩ e1 hbk r0 r1).mono fun e W' ⟨he, bel⟩ => ?_
  subst he
  exact ⟨_, rfl, _, _, _, [], _, [], hW', trodAll_mk1 (shut_bool Try.underlying4 _), again_all (below_grown bel) (by kernel_rfl) hAll, rfl, bel.frame _, fun h => by cases h⟩
theorem over (P : Pure) : Rows.textBackUptoRow.holds Try.pinned (Rows.OpenSpec.upto Rows.textBackSpec) :=
  OpenClaim.holds_of_cond 9 Try.f9 rfl rfl rfl rfl rfl rfl rfl ⟨rfl, rfl, rfl, rfl, rfl⟩ rfl rfl rfl rfl rfl (by kernel_rfl) Try.func9 (by kernel_rfl)
    (of_decide_eq_true (by kernel_rfl)) (by unfold Func.isWrapper; first | (rw [if_pos (by decide +kernel)]; kernel_rfl) | (rw [if_neg (by decide +kernel)]; exact ⟨rfl, rfl⟩))
    (fun os started H enc _ F => by rw [OpenClaim.pre_eq_preRow]; exact lifted P os started H enc F)
theorem of_pure (P : Pure) : Rows.TextBackUptoSaid := over P
end Go.Proofs.Ytlkhhhfoiipiaaa.textBackUpto

namespace Go.Proofs.Ytlkhhhfoiipiaaa
theorem textBackUptoTrue : Rows.TextBackUptoSaid :=
  textBackUpto.of_pure fun a0 a1 h0 h1 _ => ⟨3000000000 + 200, Try.S.textBack 3000000000 a0 a1 (Try.S.isB_of_wf h0.2) h0.1 (Try.S.u64_of_wf h1) (by decide)⟩
end Go.Proofs.Ytlkhhhfoiipiaaa
