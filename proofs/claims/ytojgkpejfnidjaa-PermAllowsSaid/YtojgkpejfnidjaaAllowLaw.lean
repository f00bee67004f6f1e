/- perm's law PermAllows is true for every credential and every asking that the given statement covers, and never panics. -/
import Derived.Test.YtojgkpejfnidjaaAllow
import Derived.Test.YtojgkpejfnidjaaEv4
import Derived.Test.YtojgkpejfnidjaaRows
import Derived.WalkKit
import Derived.ProofKit
import Derived.OpenShut
import Derived.ShutString
import Derived.ChangeOld
import Derived.Below
import Derived.SizedLaws
set_option linter.unusedVariables false
set_option maxRecDepth 100000
namespace Go.Proofs.Ytojgkpejfnidjaa.permAllows
open Go.ChangeShapes Go.WideShapes Go.ChangeAt Go.RowKit
open Go.Ev (open_arg again_all below_grown weights_cons shL)
theorem own : ownKnob Try.prog.godebug = none := by kernel_rfl
/-- What is left to plain Lean: what the code computes is true. -/
def Pure : Prop := ∀ (a0 : Int) (a1 : Int) (a2 : List Int) (a3 : Int) (a4 : Int) (a5 : Int) (a6 : Int) (a7 : Int) (a8 : Int) (a9 : Int) (a10 : Int) (a11 : Int) (a12 : Int) (a13 : Int) (a14 : Int) (a15 : Int) (a16 : Int) (a17 : Int) (a18 : Int) (a19 : Int) (a20 : Int) (a21 : Int) (a22 : Int) (a23 : Int) (a24 : Int) (a25 : Int) (a26 : Int) (a27 : Int) (a28 : Int), (Lit.int .i64 a0).wf = true → (Lit.int .i64 a1).wf = true → (a2.length ≤ reachBytes ∧ ∀ n ∈ a2, (Lit.int .i64 n).wf = true) → (Lit.int .i64 a3).wf = true → (Lit.int .i64 a4).wf = true → (Lit.int .i64 a5).wf = true → (Lit.int .i64 a6).wf = true → (Lit.int .i64 a7).wf = true → (Lit.int .i64 a8).wf = true → (Lit.int .i64 a9).wf = true → (Lit.int .i64 a10).wf = true → (Lit.int .i64 a11).wf = true → (Lit.int .i64 a12).wf = true → (Lit.int .i64 a13).wf = true → (Lit.int .i64 a14).wf = true → (Lit.int .i64 a15).wf = true → (Lit.int .i64 a16).wf = true → (Lit.int .i64 a17).wf = true → (Lit.int .i64 a18).wf = true → (Lit.int .i64 a19).wf = true → (Lit.int .i64 a20).wf = true → (Lit.int .i64 a21).wf = true → (Lit.int .i64 a22).wf = true → (Lit.int .i64 a23).wf = true → (Lit.int .i64 a24).wf = true → (Lit.int .i64 a25).wf = true → (Lit.int .i64 a26).wf = true → (Lit.int .i64 a27).wf = true → (Lit.int .i64 a28).wf = true → ∃ k, Go.Proofs.Try.F4.go k a0 a1 a2 a3 a4 a5 a6 a7 a8 a9 a10 a11 a12 a13 a14 a15 a16 a17 a18 a19 a20 a21 a22 a23 a24 a25 a26 a27 a28 = some ((true, ()), (), ())
set_option maxRecDepth 100000 in
theorem walk (P : Pure) (a0 : Int) (a1 : Int) (a2 : List Int) (a3 : Int) (a4 : Int) (a5 : Int) (a6 : Int) (a7 : Int) (a8 : Int) (a9 : Int) (a10 : Int) (a11 : Int) (a12 : Int) (a13 : Int) (a14 : Int) (a15 : Int) (a16 : Int) (a17 : Int) (a18 : Int) (a19 : Int) (a20 : Int) (a21 : Int) (a22 : Int) (a23 : Int) (a24 : Int) (a25 : Int) (a26 : Int) (a27 : Int) (a28 : Int) (v0 v1 : Value) (w : World) (h0 : (Lit.int .i64 a0).wf = true) (h1 : (Lit.int .i64 a1).wf = true) (h2 : (a2.length ≤ reachBytes ∧ ∀ n ∈ a2, (Lit.int .i64 n).wf = true)) (h3 : (Lit.int .i64 a3).wf = true) (h4 : (Lit.int .i64 a4).wf = true) (h5 : (Lit.int .i64 a5).wf = true) (h6 : (Lit.int .i64 a6).wf = true) (h7 : (Lit.int .i64 a7).wf = true) (h8 : (Lit.int .i64 a8).wf = true) (h9 : (Lit.int .i64 a9).wf = true) (h10 : (Lit.int .i64 a10).wf = true) (h11 : (Lit.int .i64 a11).wf = true) (h12 : (Lit.int .i64 a12).wf = true) (h13 : (Lit.int .i64 a13).wf = true) (h14 : (Lit.int .i64 a14).wf = true) (h15 : (Lit.int .i64 a15).wf = true) (h16 : (Lit.int .i64 a16).wf = true) (h17 : (Lit.int .i64 a17).wf = true) (h18 : (Lit.int .i64 a18).wf = true) (h19 : (Lit.int .i64 a19).wf = true) (h20 : (Lit.int .i64 a20).wf = true) (h21 : (Lit.int .i64 a21).wf = true) (h22 : (Lit.int .i64 a22).wf = true) (h23 : (Lit.int .i64 a23).wf = true) (h24 : (Lit.int .i64 a24).wf = true) (h25 : (Lit.int .i64 a25).wf = true) (h26 : (Lit.int .i64 a26).wf = true) (h27 : (Lit.int .i64 a27).wf = true) (h28 : (Lit.int .i64 a28).wf = true) (r0 : Go.Ev.Rep w (fun b => b < w.heap.size) 0 (fun _ => none) (.agg [(.v (.int .i64 a0)), (.v (.int .i64 a1)), (.ro false (.I .i64 a2)), (.v (.int .i64 a3)), (.v (.int .i64 a4))]) v0) (r1 : Go.Ev.Rep w (fun b => b < w.heap.size) 0 (fun _ => none) (.agg [(.v (.int .i64 a5)), (.v (.int .i64 a6)), (.v (.int .i64 a7)), (.v (.int .i64 a8)), (.v (.int .i64 a9)), (.v (.int .i64 a10)), (.v (.int .i64 a11)), (.v (.int .i64 a12)), (.v (.int .i64 a13)), (.v (.int .i64 a14)), (.v (.int .i64 a15)), (.v (.int .i64 a16)), (.v (.int .i64 a17)), (.v (.int .i64 a18)), (.v (.int .i64 a19)), (.v (.int .i64 a20)), (.v (.int .i64 a21)), (.v (.int .i64 a22)), (.v (.int .i64 a23)), (.v (.int .i64 a24)), (.v (.int .i64 a25)), (.v (.int .i64 a26)), (.v (.int .i64 a27)), (.v (.int .i64 a28))]) v1) : Calls Try.prog 4 #[v0, v1] w fun e w' => e = .returned (.bool true) ∧ Below w.heap.size w w' := by
  obtain ⟨k, hk⟩ := P a0 a1 a2 a3 a4 a5 a6 a7 a8 a9 a10 a11 a12 a13 a14 a15 a16 a17 a18 a19 a20 a21 a22 a23 a24 a25 a26 a27 a28 h0 h1 h2 h3 h4 h5 h6 h7 h8 h9 h10 h11 h12 h13 h14 h15 h16 h17 h18 h19 h20 h21 h22 h23 h24 h25 h26 h27 h28
  refine Go.Ev.law_calls (Go.Proofs.Try.F4.ok k) rfl rfl rfl (x := (((a0, a1, a2, a3, a4, ()), (a5, a6, a7, a8, a9, a10, a11, a12, a13, a14, a15, a16, a17, a18, a19, a20, a21, a22, a23, a24, a25, a26, a27, a28, ()), ()), (), ())) hk rfl ?_
  intro t y h
  match t, h with
  | 0, h =>
    have h : some ((.agg [(.v (.int .i64 a0)), (.v (.int .i64 a1)), (.ro false (.I .i64 a2)), (.v (.int .i64 a3)), (.v (.int .i64 a4))]) : Go.Ev.AV) = some y := h
    injection h with h; subst h; exact ⟨by decide, r0⟩
  | 1, h =>
    have h : some ((.agg [(.v (.int .i64 a5)), (.v (.int .i64 a6)), (.v (.int .i64 a7)), (.v (.int .i64 a8)), (.v (.int .i64 a9)), (.v (.int .i64 a10)), (.v (.int .i64 a11)), (.v (.int .i64 a12)), (.v (.int .i64 a13)), (.v (.int .i64 a14)), (.v (.int .i64 a15)), (.v (.int .i64 a16)), (.v (.int .i64 a17)), (.v (.int .i64 a18)), (.v (.int .i64 a19)), (.v (.int .i64 a20)), (.v (.int .i64 a21)), (.v (.int .i64 a22)), (.v (.int .i64 a23)), (.v (.int .i64 a24)), (.v (.int .i64 a25)), (.v (.int .i64 a26)), (.v (.int .i64 a27)), (.v (.int .i64 a28))]) : Go.Ev.AV) = some y := h
    injection h with h; subst h; exact ⟨by decide, r1⟩
  | t + 2, h => have h : (none : Option Go.Ev.AV) = some y := h; cases h
set_option maxRecDepth 100000 in
theorem lifted (P : Pure) (os : Os) (started : os.Started) (H : Type) (enc : TypeId × Value → H) :
    ReturnsInHanded {} Try.checked os 4 .any (Rows.permAllowsSpec.pre6 enc Try.prog Try.f4 Rows.permAllowsRow.domain false) (Rows.permAllowsSpec.post enc Try.prog Try.f4 false true false false) := by
  refine returnsInHanded_of_change_sized (C := Try.checked) own started (by kernel_rfl) Try.func4
    (ChangeSpec.witness6 (enc := enc) (C := Try.checked) false ⟨#[], #[.agg #[.int .i64 0, .int .i64 0, .slice none 0 0, .int .i64 0, .int .i64 0], .agg #[.int .i64 0, .int .i64 0, .int .i64 0, .int .i64 0, .int .i64 0, .int .i64 0, .int .i64 0, .int .i64 0, .int .i64 0, .int .i64 0, .int .i64 0, .int .i64 0, .int .i64 0, .int .i64 0, .int .i64 0, .int .i64 0, .int .i64 0, .int .i64 0, .int .i64 0, .int .i64 0, .int .i64 0, .int .i64 0, .int .i64 0, .int .i64 0]], []⟩ 8 (by kernel_rfl) (by kernel_rfl) (by kernel_rfl) (by kernel_rfl)) ?_
  intro W base args ds gs before hval0 hW hcnd hsz0 _
  have hsz : (DataW.weightsEach Try.prog (Try.f4.params.toList ++ Rows.permAllowsSpec.plain.varTypes Try.prog) (ds ++ gs)).all (· ≤ reachBytes) = true := hsz0
  have hval : ∀ (j : Nat) t v, Try.f4.params[j]? = some t → args[j]? = some v → Value.okWide Try.prog W .any base t v := hval0
  have hW' := hW
  obtain ⟨p, q, hA0, hV, rfl, hfz, hnd⟩ := hW
  have hA : DataW.TrodAll enc Try.prog W 0 (fun _ => true) true Try.f4.params.toList args.toList ds p := hA0
  rw [Try.params4] at hA hval hsz
  have hAll := hA
  obtain ⟨v0, vs0, d0, ds0, p0, q0, hargs, rfl, rfl, h0, r0⟩ := trodAll_cons hA
  obtain ⟨v1, vs1, d1, ds1, p1, q1, rfl, rfl, rfl, h1, r1⟩ := trodAll_cons r0
  obtain ⟨rfl, rfl, rfl⟩ := trodAll_nil r1
  obtain rfl : args = #[v0, v1] := by cases args; simp_all
  obtain ⟨rfl, rfl⟩ := trodVars_none hV
  have z0 : (DataW.weightsEach Try.prog [32, 36] [d0, d1]).all (· ≤ reachBytes) = true := hsz
  obtain ⟨w0, z1⟩ := weights_cons z0
  obtain ⟨w1, z2⟩ := weights_cons z1
  obtain ⟨y0, f0, r0⟩ := open_arg (show shL Try.prog 30 32 = some (.agg [(.int .i64), (.int .i64), (.roI false .i64), (.int .i64), (.int .i64)]) by kernel_rfl) (hval 0 32 v0 rfl rfl) h0 w0
  obtain ⟨l0, rfl, f0_0⟩ := f0
  obtain ⟨yf0_0, lf0_0, rfl, f0_c0, f0_1⟩ := Go.Ev.Fits.cons f0_0
  obtain ⟨a0, rfl, e0⟩ := f0_c0
  obtain ⟨yf0_1, lf0_1, rfl, f0_c1, f0_2⟩ := Go.Ev.Fits.cons f0_1
  obtain ⟨a1, rfl, e1⟩ := f0_c1
  obtain ⟨yf0_2, lf0_2, rfl, f0_c2, f0_3⟩ := Go.Ev.Fits.cons f0_2
  obtain ⟨a2, rfl, e2⟩ := f0_c2
  obtain ⟨yf0_3, lf0_3, rfl, f0_c3, f0_4⟩ := Go.Ev.Fits.cons f0_3
  obtain ⟨a3, rfl, e3⟩ := f0_c3
  obtain ⟨yf0_4, lf0_4, rfl, f0_c4, f0_5⟩ := Go.Ev.Fits.cons f0_4
  obtain ⟨a4, rfl, e4⟩ := f0_c4
  obtain rfl := Go.Ev.Fits.nil f0_5
  obtain ⟨y1, f1, r1⟩ := open_arg (show shL Try.prog 30 36 = some (.agg [(.int .i64), (.int .i64), (.int .i64), (.int .i64), (.int .i64), (.int .i64), (.int .i64), (.int .i64), (.int .i64), (.int .i64), (.int .i64), (.int .i64), (.int .i64), (.int .i64), (.int .i64), (.int .i64), (.int .i64), (.int .i64), (.int .i64), (.int .i64), (.int .i64), (.int .i64), (.int .i64), (.int .i64)]) by kernel_rfl) (hval 1 36 v1 rfl rfl) h1 w1
  obtain ⟨l5, rfl, f1_0⟩ := f1
  obtain ⟨yf1_0, lf1_0, rfl, f1_c0, f1_1⟩ := Go.Ev.Fits.cons f1_0
  obtain ⟨a5, rfl, e5⟩ := f1_c0
  obtain ⟨yf1_1, lf1_1, rfl, f1_c1, f1_2⟩ := Go.Ev.Fits.cons f1_1
  obtain ⟨a6, rfl, e6⟩ := f1_c1
  obtain ⟨yf1_2, lf1_2, rfl, f1_c2, f1_3⟩ := Go.Ev.Fits.cons f1_2
  obtain ⟨a7, rfl, e7⟩ := f1_c2
  obtain ⟨yf1_3, lf1_3, rfl, f1_c3, f1_4⟩ := Go.Ev.Fits.cons f1_3
  obtain ⟨a8, rfl, e8⟩ := f1_c3
  obtain ⟨yf1_4, lf1_4, rfl, f1_c4, f1_5⟩ := Go.Ev.Fits.cons f1_4
  obtain ⟨a9, rfl, e9⟩ := f1_c4
  obtain ⟨yf1_5, lf1_5, rfl, f1_c5, f1_6⟩ := Go.Ev.Fits.cons f1_5
  obtain ⟨a10, rfl, e10⟩ := f1_c5
  obtain ⟨yf1_6, lf1_6, rfl, f1_c6, f1_7⟩ := Go.Ev.Fits.cons f1_6
  obtain ⟨a11, rfl, e11⟩ := f1_c6
  obtain ⟨yf1_7, lf1_7, rfl, f1_c7, f1_8⟩ := Go.Ev.Fits.cons f1_7
  obtain ⟨a12, rfl, e12⟩ := f1_c7
  obtain ⟨yf1_8, lf1_8, rfl, f1_c8, f1_9⟩ := Go.Ev.Fits.cons f1_8
  obtain ⟨a13, rfl, e13⟩ := f1_c8
  obtain ⟨yf1_9, lf1_9, rfl, f1_c9, f1_10⟩ := Go.Ev.Fits.cons f1_9
  obtain ⟨a14, rfl, e14⟩ := f1_c9
  obtain ⟨yf1_10, lf1_10, rfl, f1_c10, f1_11⟩ := Go.Ev.Fits.cons f1_10
  obtain ⟨a15, rfl, e15⟩ := f1_c10
  obtain ⟨yf1_11, lf1_11, rfl, f1_c11, f1_12⟩ := Go.Ev.Fits.cons f1_11
  obtain ⟨a16, rfl, e16⟩ := f1_c11
  obtain ⟨yf1_12, lf1_12, rfl, f1_c12, f1_13⟩ := Go.Ev.Fits.cons f1_12
  obtain ⟨a17, rfl, e17⟩ := f1_c12
  obtain ⟨yf1_13, lf1_13, rfl, f1_c13, f1_14⟩ := Go.Ev.Fits.cons f1_13
  obtain ⟨a18, rfl, e18⟩ := f1_c13
  obtain ⟨yf1_14, lf1_14, rfl, f1_c14, f1_15⟩ := Go.Ev.Fits.cons f1_14
  obtain ⟨a19, rfl, e19⟩ := f1_c14
  obtain ⟨yf1_15, lf1_15, rfl, f1_c15, f1_16⟩ := Go.Ev.Fits.cons f1_15
  obtain ⟨a20, rfl, e20⟩ := f1_c15
  obtain ⟨yf1_16, lf1_16, rfl, f1_c16, f1_17⟩ := Go.Ev.Fits.cons f1_16
  obtain ⟨a21, rfl, e21⟩ := f1_c16
  obtain ⟨yf1_17, lf1_17, rfl, f1_c17, f1_18⟩ := Go.Ev.Fits.cons f1_17
  obtain ⟨a22, rfl, e22⟩ := f1_c17
  obtain ⟨yf1_18, lf1_18, rfl, f1_c18, f1_19⟩ := Go.Ev.Fits.cons f1_18
  obtain ⟨a23, rfl, e23⟩ := f1_c18
  obtain ⟨yf1_19, lf1_19, rfl, f1_c19, f1_20⟩ := Go.Ev.Fits.cons f1_19
  obtain ⟨a24, rfl, e24⟩ := f1_c19
  obtain ⟨yf1_20, lf1_20, rfl, f1_c20, f1_21⟩ := Go.Ev.Fits.cons f1_20
  obtain ⟨a25, rfl, e25⟩ := f1_c20
  obtain ⟨yf1_21, lf1_21, rfl, f1_c21, f1_22⟩ := Go.Ev.Fits.cons f1_21
  obtain ⟨a26, rfl, e26⟩ := f1_c21
  obtain ⟨yf1_22, lf1_22, rfl, f1_c22, f1_23⟩ := Go.Ev.Fits.cons f1_22
  obtain ⟨a27, rfl, e27⟩ := f1_c22
  obtain ⟨yf1_23, lf1_23, rfl, f1_c23, f1_24⟩ := Go.Ev.Fits.cons f1_23
  obtain ⟨a28, rfl, e28⟩ := f1_c23
  obtain rfl := Go.Ev.Fits.nil f1_24
  clear hA0 hval0 hsz0 hsz
  refine (walk P a0 a1 a2 a3 a4 a5 a6 a7 a8 a9 a10 a11 a12 a13 a14 a15 a16 a17 a18 a19 a20 a21 a22 a23 a24 a25 a26 a27 a28 v0 v1 W e0 e1 e2 e3 e4 e5 e6 e7 e8 e9 e10 e11 e12 e13 e14 e15 e16 e17 e18 e19 e20 e21 e22 e23 e24 e25 e26 e27 e28 r0 r1).mono fun e W' ⟨he, bel⟩ => ?_
  subst he
  exact ⟨_, rfl, _, _, _, [], _, [], hW', trodAll_mk1 (shut_bool Try.underlying4 _), again_all (below_grown bel) (by kernel_rfl) hAll, rfl, bel.frame _, fun h => by cases h⟩
theorem over (P : Pure) : Rows.permAllowsRow.holds Try.pinned (OpenSpec.ofChange Rows.permAllowsSpec) :=
  OpenClaim.holds_of_wide 4 Try.f4 rfl rfl rfl rfl rfl rfl rfl ⟨rfl, rfl, rfl, rfl, rfl⟩ rfl rfl rfl rfl rfl (by kernel_rfl) Try.func4 (by kernel_rfl)
    (of_decide_eq_true (by kernel_rfl)) (by unfold Func.isWrapper; first | (rw [if_pos (by decide +kernel)]; kernel_rfl) | (rw [if_neg (by decide +kernel)]; exact ⟨rfl, rfl⟩))
    (fun os started H enc _ => lifted P os started H enc)
theorem of_pure (P : Pure) : Rows.PermAllowsSaid := over P
end Go.Proofs.Ytojgkpejfnidjaa.permAllows
namespace Go.Proofs.Ytojgkpejfnidjaa
theorem permAllowsTrue : Rows.PermAllowsSaid :=
  permAllows.of_pure fun a0 a1 a2 a3 a4 a5 a6 a7 a8 a9 a10 a11 a12 a13 a14 a15 a16 a17 a18 a19 a20 a21 a22 a23 a24 a25 a26 a27 a28 _ _ h _ _ _ _ _ _ _ _ _ _ _ _ _ _ _ _ _ _ _ _ _ _ _ _ _ _ => Try.S.permAllows a0 a1 a2 a3 a4 a5 a6 a7 a8 a9 a10 a11 a12 a13 a14 a15 a16 a17 a18 a19 a20 a21 a22 a23 a24 a25 a26 a27 a28 h.1
end Go.Proofs.Ytojgkpejfnidjaa
