/- perm's law PermTexts is true for every mode and text that the given statement covers, and never panics. -/
import Derived.Test.YtojgkpejfnidjaaTexts
import Derived.Test.YtojgkpejfnidjaaEv4
import Derived.Test.YtojgkpejfnidjaaRows
import Derived.WalkKit
import Derived.ProofKit
import Derived.OpenShut
import Derived.ShutString
import Derived.ChangeOld
import Derived.Below
import Derived.SizedLaws
set_option linter.unusedVariables false
set_option maxRecDepth 100000
namespace Go.Proofs.Ytojgkpejfnidjaa.permTexts
open Go.ChangeShapes Go.WideShapes Go.ChangeAt Go.RowKit
open Go.Ev (open_arg again_all below_grown weights_cons shL)
theorem own : ownKnob Try.prog.godebug = none := by kernel_rfl
/-- What is left to plain Lean: what the code computes is true. -/
def Pure : Prop := ∀ (a0 : Int) (a1 : ByteArray), (Lit.int .i64 a0).wf = true → a1.size ≤ reachBytes → ∃ k, Go.Proofs.Try.F5.go k a0 a1 = some ((true, ()), (), ())
set_option maxRecDepth 100000 in
theorem walk (P : Pure) (a0 : Int) (a1 : ByteArray) (v0 v1 : Value) (w : World) (h0 : (Lit.int .i64 a0).wf = true) (h1 : a1.size ≤ reachBytes) (r0 : Go.Ev.Rep w (fun b => b < w.heap.size) 0 (fun _ => none) (.v (.int .i64 a0)) v0) (r1 : Go.Ev.Rep w (fun b => b < w.heap.size) 0 (fun _ => none) (.v (.string a1)) v1) : Calls Try.prog 5 #[v0, v1] w fun e w' => e = .returned (.bool true) ∧ Below w.heap.size w w' := by
  obtain ⟨k, hk⟩ := P a0 a1 h0 h1
  refine Go.Ev.law_calls (Go.Proofs.Try.F5.ok k) rfl rfl rfl (x := ((a0, a1, ()), (), ())) hk rfl ?_
  intro t y h
  match t, h with
  | 0, h =>
    have h : some ((.v (.int .i64 a0)) : Go.Ev.AV) = some y := h
    injection h with h; subst h; exact ⟨by decide, r0⟩
  | 1, h =>
    have h : some ((.v (.string a1)) : Go.Ev.AV) = some y := h
    injection h with h; subst h; exact ⟨by decide, r1⟩
  | t + 2, h => have h : (none : Option Go.Ev.AV) = some y := h; cases h
set_option maxRecDepth 100000 in
theorem lifted (P : Pure) (os : Os) (started : os.Started) (H : Type) (enc : TypeId × Value → H) :
    ReturnsInHanded {} Try.checked os 5 .any (Rows.permTextsSpec.pre6 enc Try.prog Try.f5 Rows.permTextsRow.domain false) (Rows.permTextsSpec.post enc Try.prog Try.f5 false true false false) := by
  refine returnsInHanded_of_change_sized (C := Try.checked) own started (by kernel_rfl) Try.func5
    (ChangeSpec.witness6 (enc := enc) (C := Try.checked) false ⟨#[], #[.int .i64 0, .string ByteArray.empty], []⟩ 8 (by kernel_rfl) (by kernel_rfl) (by kernel_rfl) (by kernel_rfl)) ?_
  intro W base args ds gs before hval0 hW hcnd hsz0 _
  have hsz : (DataW.weightsEach Try.prog (Try.f5.params.toList ++ Rows.permTextsSpec.plain.varTypes Try.prog) (ds ++ gs)).all (· ≤ reachBytes) = true := hsz0
  have hval : ∀ (j : Nat) t v, Try.f5.params[j]? = some t → args[j]? = some v → Value.okWide Try.prog W .any base t v := hval0
  have hW' := hW
  obtain ⟨p, q, hA0, hV, rfl, hfz, hnd⟩ := hW
  have hA : DataW.TrodAll enc Try.prog W 0 (fun _ => true) true Try.f5.params.toList args.toList ds p := hA0
  rw [Try.params5] at hA hval hsz
  have hAll := hA
  obtain ⟨v0, vs0, d0, ds0, p0, q0, hargs, rfl, rfl, h0, r0⟩ := trodAll_cons hA
  obtain ⟨v1, vs1, d1, ds1, p1, q1, rfl, rfl, rfl, h1, r1⟩ := trodAll_cons r0
  obtain ⟨rfl, rfl, rfl⟩ := trodAll_nil r1
  obtain rfl : args = #[v0, v1] := by cases args; simp_all
  obtain ⟨rfl, rfl⟩ := trodVars_none hV
  have z0 : (DataW.weightsEach Try.prog [3, 9] [d0, d1]).all (· ≤ reachBytes) = true := hsz
  obtain ⟨w0, z1⟩ := weights_cons z0
  obtain ⟨w1, z2⟩ := weights_cons z1
  obtain ⟨y0, f0, r0⟩ := open_arg (show shL Try.prog 30 3 = some (.int .i64) by kernel_rfl) (hval 0 3 v0 rfl rfl) h0 w0
  obtain ⟨a0, rfl, e0⟩ := f0
  obtain ⟨y1, f1, r1⟩ := open_arg (show shL Try.prog 30 9 = some .str by kernel_rfl) (hval 1 9 v1 rfl rfl) h1 w1
  obtain ⟨a1, rfl, e1⟩ := f1
  clear hA0 hval0 hsz0 hsz
  refine (walk P a0 a1 v0 v1 W e0 e1 r0 r1).mono fun e W' ⟨he, bel⟩ => ?_
  subst he
  exact ⟨_, rfl, _, _, _, [], _, [], hW', trodAll_mk1 (shut_bool Try.underlying4 _), again_all (below_grown bel) (by kernel_rfl) hAll, rfl, bel.frame _, fun h => by cases h⟩
theorem over (P : Pure) : Rows.permTextsRow.holds Try.pinned (OpenSpec.ofChange Rows.permTextsSpec) :=
  OpenClaim.holds_of_wide 5 Try.f5 rfl rfl rfl rfl rfl rfl rfl ⟨rfl, rfl, rfl, rfl, rfl⟩ rfl rfl rfl rfl rfl (by kernel_rfl) Try.func5 (by kernel_rfl)
    (of_decide_eq_true (by kernel_rfl)) (by unfold Func.isWrapper; first | (rw [if_pos (by decide +kernel)]; kernel_rfl) | (rw [if_neg (by decide +kernel)]; exact ⟨rfl, rfl⟩))
    (fun os started H enc _ => lifted P os started H enc)
theorem of_pure (P : Pure) : Rows.PermTextsSaid := over P
end Go.Proofs.Ytojgkpejfnidjaa.permTexts
namespace Go.Proofs.Ytojgkpejfnidjaa
theorem permTextsTrue : Rows.PermTextsSaid :=
  permTexts.of_pure fun a0 a1 _ _ => Try.S.permTexts a0 a1
end Go.Proofs.Ytojgkpejfnidjaa
