/- text's law TextSplits is true for every text and every way to part it that the given upto-statement covers (what is read is of bulk at most 1048576), and never panics. -/
import Derived.Test.YtlkhhhfoiipiaaaSplitsPlain
import Derived.Test.YtlkhhhfoiipiaaaEv4
import Derived.Test.YtlkhhhfoiipiaaaRows
import Derived.WalkKit
import Derived.ProofKit
import Derived.OpenShut
import Derived.ShutString
import Derived.ChangeOld
import Derived.Below
import Derived.SizedLaws
import Derived.Deep.CondSized
import Derived.JoinedCond
set_option linter.unusedVariables false
set_option maxRecDepth 100000
namespace Go.Proofs.Ytlkhhhfoiipiaaa.textSplitsUpto
open Go.ChangeShapes Go.WideShapes Go.ChangeAt Go.RowKit
open Go.Ev (open_arg again_all below_grown weights_cons shL)
theorem own : ownKnob Try.prog.godebug = none := by kernel_rfl
theorem bulk_one {H : Type} (d : DataW H) : 1 ≤ Rows.uptoBulk d := by
  cases d with
  | lit l => cases l <;> simp [Rows.uptoBulk]
  | _ => simp [Rows.uptoBulk]
theorem bulk_len {H : Type} (l : List (DataW H)) : l.length ≤ Rows.uptoBulkAll l := by
  induction l with
  | nil => simp [Rows.uptoBulkAll]
  | cons x r ih => have := bulk_one x; simp only [Rows.uptoBulkAll, List.length_cons]; omega
theorem bulk_sum {H : Type} : ∀ l : List (DataW H), Rows.uptoBulkAll l = (l.map Rows.uptoBulk).sum
  | [] => by simp [Rows.uptoBulkAll]
  | x :: r => by rw [Rows.uptoBulkAll, bulk_sum r]; rfl
theorem bulk_ok {H : Type} : Go.Ev.BulkOK (Rows.uptoBulk (H := H)) where
  pos := bulk_one
  str := fun s => by simp only [Rows.uptoBulk]; exact Nat.le_refl _
  slice := fun es ss => by simp only [Rows.uptoBulk, bulk_sum]; omega
  agg := fun ps => by simp only [Rows.uptoBulk, bulk_sum]; omega
/-- What is left to plain Lean: what the code computes is true. -/
def Pure : Prop := ∀ (a0 : List Int) (a1 : Int) (a2 : Int) (a3 : ByteArray), (a0.length ≤ 1048576 ∧ ∀ n ∈ a0, (Lit.int .u8 n).wf = true) → (Lit.int .i64 a1).wf = true → (Lit.int .i64 a2).wf = true → a3.size ≤ reachBytes → Go.Ev.avBulks [(.ro false (.I .u8 a0)), (.agg [(.v (.int .i64 a1)), (.v (.int .i64 a2)), (.v (.string a3))])] ≤ 1048576 → ∃ k, Go.Proofs.Try.F6.go k a0 a1 a2 a3 = some ((true, ()), (), ())
set_option maxRecDepth 100000 in
theorem walk (P : Pure) (a0 : List Int) (a1 : Int) (a2 : Int) (a3 : ByteArray) (v0 v1 : Value) (w : World) (h0 : (a0.length ≤ 1048576 ∧ ∀ n ∈ a0, (Lit.int .u8 n).wf = true)) (h1 : (Lit.int .i64 a1).wf = true) (h2 : (Lit.int .i64 a2).wf = true) (h3 : a3.size ≤ reachBytes) (hbk : Go.Ev.avBulks [(.ro false (.I .u8 a0)), (.agg [(.v (.int .i64 a1)), (.v (.int .i64 a2)), (.v (.string a3))])] ≤ 1048576) (r0 : Go.Ev.Rep w (fun b => b < w.heap.size) 0 (fun _ => none) (.ro false (.I .u8 a0)) v0) (r1 : Go.Ev.Rep w (fun b => b < w.heap.size) 0 (fun _ => none) (.agg [(.v (.int .i64 a1)), (.v (.int .i64 a2)), (.v (.string a3))]) v1) : Calls Try.prog 6 #[v0, v1] w fun e w' => e = .returned (.bool true) ∧ Below w.heap.size w w' := by
  obtain ⟨k, hk⟩ := P a0 a1 a2 a3 h0 h1 h2 h3 hbk
  refine Go.Ev.law_calls (Go.Proofs.Try.F6.ok k) rfl rfl rfl (x := ((a0, (a1, a2, a3, ()), ()), (), ())) hk rfl ?_
  intro t y h
  match t, h with
  | 0, h =>
    have h : some ((.ro false (.I .u8 a0)) : Go.Ev.AV) = some y := h
    injection h with h; subst h; exact ⟨by decide, r0⟩
  | 1, h =>
    have h : some ((.agg [(.v (.int .i64 a1)), (.v (.int .i64 a2)), (.v (.string a3))]) : Go.Ev.AV) = some y := h
    injection h with h; subst h; exact ⟨by decide, r1⟩
  | t + 2, h => have h : (none : Option Go.Ev.AV) = some y := h; cases h
set_option maxRecDepth 100000 in
theorem lifted (P : Pure) (os : Os) (started : os.Started) (H : Type) (enc : TypeId × Value → H) (F : Stop.Interp) :
    ReturnsInHanded {} Try.checked os 6 .any ((Rows.OpenSpec.upto Rows.textSplitsSpec).pre6 enc Try.prog Try.f6 Rows.textSplitsUptoRow.domain false) (((Rows.OpenSpec.upto Rows.textSplitsSpec).at F).post enc Try.prog Try.f6 false true false false) := by
  refine returnsInHanded_of_cond_sized (C := Try.checked) (s := (Rows.OpenSpec.upto Rows.textSplitsSpec)) (k := Rows.uptoSmall) rfl own started (by kernel_rfl) Try.func6
    (OpenSpec.witness (enc := enc) (C := Try.checked) (s := (Rows.OpenSpec.upto Rows.textSplitsSpec)) (k := Rows.uptoSmall) rfl false ⟨#[], #[.slice none 0 0, .agg #[.int .i64 0, .int .i64 0, .string ByteArray.empty]], []⟩ 8 (by kernel_rfl) (by kernel_rfl) (by kernel_rfl)
      (x := ([.nil, .agg [.lit (.int .i64 0), .lit (.int .i64 0), .lit (.string [])]], [], [])) (by kernel_rfl) rfl (by kernel_rfl)) ?_
  intro W base args ds gs before hval0 hW hcnd hk hsz0 _
  have hsz : (DataW.weightsEach Try.prog (Try.f6.params.toList ++ Rows.textSplitsSpec.plain.varTypes Try.prog) (ds ++ gs)).all (· ≤ reachBytes) = true := hsz0
  have hval : ∀ (j : Nat) t v, Try.f6.params[j]? = some t → args[j]? = some v → Value.okWide Try.prog W .any base t v := hval0
  have hW' := hW
  obtain ⟨p, q, hA0, hV, rfl, hfz, hnd⟩ := hW
  have hA : DataW.TrodAll enc Try.prog W 0 (fun _ => true) true Try.f6.params.toList args.toList ds p := hA0
  rw [Try.params6] at hA hval hsz
  have hAll := hA
  obtain ⟨v0, vs0, d0, ds0, p0, q0, hargs, rfl, rfl, h0, r0⟩ := trodAll_cons hA
  obtain ⟨v1, vs1, d1, ds1, p1, q1, rfl, rfl, rfl, h1, r1⟩ := trodAll_cons r0
  obtain ⟨rfl, rfl, rfl⟩ := trodAll_nil r1
  obtain rfl : args = #[v0, v1] := by cases args; simp_all
  obtain ⟨rfl, rfl⟩ := trodVars_none hV
  have z0 : (DataW.weightsEach Try.prog [22, 42] [d0, d1]).all (· ≤ reachBytes) = true := hsz
  obtain ⟨w0, z1⟩ := weights_cons z0
  obtain ⟨w1, z2⟩ := weights_cons z1
  obtain ⟨y0, f0, r0, k0⟩ := Go.Ev.open_argB (show shL Try.prog 30 22 = some (.roI false .u8) by kernel_rfl) (hval 0 22 v0 rfl rfl) h0 w0 bulk_ok
  obtain ⟨a0, rfl, e0⟩ := f0
  obtain ⟨y1, f1, r1, k1⟩ := Go.Ev.open_argB (show shL Try.prog 30 42 = some (.agg [(.int .i64), (.int .i64), .str]) by kernel_rfl) (hval 1 42 v1 rfl rfl) h1 w1 bulk_ok
  obtain ⟨l1, rfl, f1_0⟩ := f1
  obtain ⟨yf1_0, lf1_0, rfl, f1_c0, f1_1⟩ := Go.Ev.Fits.cons f1_0
  obtain ⟨a1, rfl, e1⟩ := f1_c0
  obtain ⟨yf1_1, lf1_1, rfl, f1_c1, f1_2⟩ := Go.Ev.Fits.cons f1_1
  obtain ⟨a2, rfl, e2⟩ := f1_c1
  obtain ⟨yf1_2, lf1_2, rfl, f1_c2, f1_3⟩ := Go.Ev.Fits.cons f1_2
  obtain ⟨a3, rfl, e3⟩ := f1_c2
  obtain rfl := Go.Ev.Fits.nil f1_3
  have hk' : Rows.uptoBulkAll [d0, d1] ≤ 1048576 := of_decide_eq_true hk
  simp only [Rows.uptoBulkAll] at hk'
  have b0 : a0.length ≤ 1048576 := by
    have g : Rows.uptoBulk d0 ≤ 1048576 := by omega
    rcases Go.Ev.slice_dat Try.underlying22 h0 r0 with ⟨_, z⟩ | ⟨es, ss, hd, z⟩
    · have z : a0.length = 0 := z
      omega
    · rw [hd] at g
      have z : a0.length = es.length := z
      have := bulk_len es
      simp only [Rows.uptoBulk] at g
      omega
  have hbk : Go.Ev.avBulks [(.ro false (.I .u8 a0)), (.agg [(.v (.int .i64 a1)), (.v (.int .i64 a2)), (.v (.string a3))])] ≤ 1048576 := by
    simp only [Go.Ev.avBulks]
    omega
  clear hA0 hval0 hsz0 hsz
  refine (walk P a0 a1 a2 a3 v0 v1 W ⟨b0, e0.2⟩ e1 e2 e3 hbk r0 r1).mono fun e W' ⟨he, bel⟩ => ?_
  subst he
  exact ⟨_, rfl, _, _, _, [], _, [], hW', trodAll_mk1 (shut_bool Try.underlying4 _), again_all (below_grown bel) (by kernel_rfl) hAll, rfl, bel.frame _, fun h => by cases h⟩
theorem over (P : Pure) : Rows.textSplitsUptoRow.holds Try.pinned (Rows.OpenSpec.upto Rows.textSplitsSpec) :=
  OpenClaim.holds_of_cond 6 Try.f6 rfl rfl rfl rfl rfl rfl rfl ⟨rfl, rfl, rfl, rfl, rfl⟩ rfl rfl rfl rfl rfl (by kernel_rfl) Try.func6 (by kernel_rfl)
    (of_decide_eq_true (by kernel_rfl)) (by unfold Func.isWrapper; first | (rw [if_pos (by decide +kernel)]; kernel_rfl) | (rw [if_neg (by decide +kernel)]; exact ⟨rfl, rfl⟩))
    (fun os started H enc _ F => lifted P os started H enc F)
theorem of_pure (P : Pure) : Rows.TextSplitsUptoSaid := over P
end Go.Proofs.Ytlkhhhfoiipiaaa.textSplitsUpto
namespace Go.Proofs.Ytlkhhhfoiipiaaa
theorem textSplitsUptoTrue : Rows.TextSplitsUptoSaid :=
  textSplitsUpto.of_pure fun a0 a1 a2 a3 h0 h1 h2 _ hbk => Try.S.textSplits a0 a1 a2 a3 (Try.S.isB_of_wf h0.2) h0.1 (Try.S.i64_of_wf h1) (Try.S.i64_of_wf h2) (by simp only [Go.Ev.avBulks, Go.Ev.avBulk] at hbk; omega)
end Go.Proofs.Ytlkhhhfoiipiaaa
