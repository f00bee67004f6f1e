/- text's law TextEnds is true for every text, number and choice that the given upto-statement covers (what is read is of bulk at most 1048576), and never panics. -/
import Derived.Test.YtlkhhhfoiipiaaaEndsPlain
import Derived.Test.YtlkhhhfoiipiaaaEv4
import Derived.Test.YtlkhhhfoiipiaaaRows
import Derived.WalkKit
import Derived.ProofKit
import Derived.OpenShut
import Derived.ShutString
import Derived.ChangeOld
import Derived.Below
import Derived.SizedLaws
import Derived.Deep.CondSized
import Derived.JoinedCond
set_option linter.unusedVariables false
set_option maxRecDepth 100000
namespace Go.Proofs.Ytlkhhhfoiipiaaa.textEndsUpto
open Go.ChangeShapes Go.WideShapes Go.ChangeAt Go.RowKit
open Go.Ev (open_arg again_all below_grown weights_cons shL)
theorem own : ownKnob Try.prog.godebug = none := by kernel_rfl
theorem bulk_one {H : Type} (d : DataW H) : 1 ≤ Rows.uptoBulk d := by
  cases d with
  | lit l => cases l <;> simp [Rows.uptoBulk]
  | _ => simp [Rows.uptoBulk]
theorem bulk_len {H : Type} (l : List (DataW H)) : l.length ≤ Rows.uptoBulkAll l := by
  induction l with
  | nil => simp [Rows.uptoBulkAll]
  | cons x r ih => have := bulk_one x; simp only [Rows.uptoBulkAll, List.length_cons]; omega
/-- What is left to plain Lean: what the code computes is true. -/
def Pure : Prop := ∀ (a0 : List Int) (a1 : Int) (a2 : Bool), (a0.length ≤ 1048576 ∧ ∀ n ∈ a0, (Lit.int .u8 n).wf = true) → (Lit.int .i64 a1).wf = true → ∃ k, Go.Proofs.Try.F5.go k a0 a1 a2 = some ((true, ()), (), ())
set_option maxRecDepth 100000 in
theorem walk (P : Pure) (a0 : List Int) (a1 : Int) (a2 : Bool) (v0 v1 v2 : Value) (w : World) (h0 : (a0.length ≤ 1048576 ∧ ∀ n ∈ a0, (Lit.int .u8 n).wf = true)) (h1 : (Lit.int .i64 a1).wf = true) (r0 : Go.Ev.Rep w (fun b => b < w.heap.size) 0 (fun _ => none) (.ro false (.I .u8 a0)) v0) (r1 : Go.Ev.Rep w (fun b => b < w.heap.size) 0 (fun _ => none) (.v (.int .i64 a1)) v1) (r2 : Go.Ev.Rep w (fun b => b < w.heap.size) 0 (fun _ => none) (.v (.bool a2)) v2) : Calls Try.prog 5 #[v0, v1, v2] w fun e w' => e = .returned (.bool true) ∧ Below w.heap.size w w' := by
  obtain ⟨k, hk⟩ := P a0 a1 a2 h0 h1
  refine Go.Ev.law_calls (Go.Proofs.Try.F5.ok k) rfl rfl rfl (x := ((a0, a1, a2, ()), (), ())) hk rfl ?_
  intro t y h
  match t, h with
  | 0, h =>
    have h : some ((.ro false (.I .u8 a0)) : Go.Ev.AV) = some y := h
    injection h with h; subst h; exact ⟨by decide, r0⟩
  | 1, h =>
    have h : some ((.v (.int .i64 a1)) : Go.Ev.AV) = some y := h
    injection h with h; subst h; exact ⟨by decide, r1⟩
  | 2, h =>
    have h : some ((.v (.bool a2)) : Go.Ev.AV) = some y := h
    injection h with h; subst h; exact ⟨by decide, r2⟩
  | t + 3, h => have h : (none : Option Go.Ev.AV) = some y := h; cases h
set_option maxRecDepth 100000 in
theorem lifted (P : Pure) (os : Os) (started : os.Started) (H : Type) (enc : TypeId × Value → H) (F : Stop.Interp) :
    ReturnsInHanded {} Try.checked os 5 .any ((Rows.OpenSpec.upto Rows.textEndsSpec).pre6 enc Try.prog Try.f5 Rows.textEndsUptoRow.domain false) (((Rows.OpenSpec.upto Rows.textEndsSpec).at F).post enc Try.prog Try.f5 false true false false) := by
  refine returnsInHanded_of_cond_sized (C := Try.checked) (s := (Rows.OpenSpec.upto Rows.textEndsSpec)) (k := Rows.uptoSmall) rfl own started (by kernel_rfl) Try.func5
    (OpenSpec.witness (enc := enc) (C := Try.checked) (s := (Rows.OpenSpec.upto Rows.textEndsSpec)) (k := Rows.uptoSmall) rfl false ⟨#[], #[.slice none 0 0, .int .i64 0, .bool false], []⟩ 8 (by kernel_rfl) (by kernel_rfl) (by kernel_rfl)
      (x := ([.nil, .lit (.int .i64 0), .lit (.bool false)], [], [])) (by kernel_rfl) rfl (by kernel_rfl)) ?_
  intro W base args ds gs before hval0 hW hcnd hk hsz0 _
  have hsz : (DataW.weightsEach Try.prog (Try.f5.params.toList ++ Rows.textEndsSpec.plain.varTypes Try.prog) (ds ++ gs)).all (· ≤ reachBytes) = true := hsz0
  have hval : ∀ (j : Nat) t v, Try.f5.params[j]? = some t → args[j]? = some v → Value.okWide Try.prog W .any base t v := hval0
  have hW' := hW
  obtain ⟨p, q, hA0, hV, rfl, hfz, hnd⟩ := hW
  have hA : DataW.TrodAll enc Try.prog W 0 (fun _ => true) true Try.f5.params.toList args.toList ds p := hA0
  rw [Try.params5] at hA hval hsz
  have hAll := hA
  obtain ⟨v0, vs0, d0, ds0, p0, q0, hargs, rfl, rfl, h0, r0⟩ := trodAll_cons hA
  obtain ⟨v1, vs1, d1, ds1, p1, q1, rfl, rfl, rfl, h1, r1⟩ := trodAll_cons r0
  obtain ⟨v2, vs2, d2, ds2, p2, q2, rfl, rfl, rfl, h2, r2⟩ := trodAll_cons r1
  obtain ⟨rfl, rfl, rfl⟩ := trodAll_nil r2
  obtain rfl : args = #[v0, v1, v2] := by cases args; simp_all
  obtain ⟨rfl, rfl⟩ := trodVars_none hV
  have z0 : (DataW.weightsEach Try.prog [22, 3, 4] [d0, d1, d2]).all (· ≤ reachBytes) = true := hsz
  obtain ⟨w0, z1⟩ := weights_cons z0
  obtain ⟨w1, z2⟩ := weights_cons z1
  obtain ⟨w2, z3⟩ := weights_cons z2
  obtain ⟨y0, f0, r0⟩ := open_arg (show shL Try.prog 30 22 = some (.roI false .u8) by kernel_rfl) (hval 0 22 v0 rfl rfl) h0 w0
  obtain ⟨a0, rfl, e0⟩ := f0
  obtain ⟨y1, f1, r1⟩ := open_arg (show shL Try.prog 30 3 = some (.int .i64) by kernel_rfl) (hval 1 3 v1 rfl rfl) h1 w1
  obtain ⟨a1, rfl, e1⟩ := f1
  obtain ⟨y2, f2, r2⟩ := open_arg (show shL Try.prog 30 4 = some .bool by kernel_rfl) (hval 2 4 v2 rfl rfl) h2 w2
  obtain ⟨a2, rfl⟩ := f2
  have hk' : Rows.uptoBulkAll [d0, d1, d2] ≤ 1048576 := of_decide_eq_true hk
  simp only [Rows.uptoBulkAll] at hk'
  have b0 : a0.length ≤ 1048576 := by
    have g : Rows.uptoBulk d0 ≤ 1048576 := by omega
    rcases Go.Ev.slice_dat Try.underlying22 h0 r0 with ⟨_, z⟩ | ⟨es, ss, hd, z⟩
    · have z : a0.length = 0 := z
      omega
    · rw [hd] at g
      have z : a0.length = es.length := z
      have := bulk_len es
      simp only [Rows.uptoBulk] at g
      omega
  clear hA0 hval0 hsz0 hsz
  refine (walk P a0 a1 a2 v0 v1 v2 W ⟨b0, e0.2⟩ e1 r0 r1 r2).mono fun e W' ⟨he, bel⟩ => ?_
  subst he
  exact ⟨_, rfl, _, _, _, [], _, [], hW', trodAll_mk1 (shut_bool Try.underlying4 _), again_all (below_grown bel) (by kernel_rfl) hAll, rfl, bel.frame _, fun h => by cases h⟩
theorem over (P : Pure) : Rows.textEndsUptoRow.holds Try.pinned (Rows.OpenSpec.upto Rows.textEndsSpec) :=
  OpenClaim.holds_of_cond 5 Try.f5 rfl rfl rfl rfl rfl rfl rfl ⟨rfl, rfl, rfl, rfl, rfl⟩ rfl rfl rfl rfl rfl (by kernel_rfl) Try.func5 (by kernel_rfl)
    (of_decide_eq_true (by kernel_rfl)) (by unfold Func.isWrapper; first | (rw [if_pos (by decide +kernel)]; kernel_rfl) | (rw [if_neg (by decide +kernel)]; exact ⟨rfl, rfl⟩))
    (fun os started H enc _ F => lifted P os started H enc F)
theorem of_pure (P : Pure) : Rows.TextEndsUptoSaid := over P
end Go.Proofs.Ytlkhhhfoiipiaaa.textEndsUpto
namespace Go.Proofs.Ytlkhhhfoiipiaaa
theorem textEndsUptoTrue : Rows.TextEndsUptoSaid :=
  textEndsUpto.of_pure fun a0 a1 a2 h h1 => Try.S.textEnds a0 a1 a2 (Try.S.isB_of_wf h.2) h.1 (Try.S.i64_of_wf h1)
end Go.Proofs.Ytlkhhhfoiipiaaa
