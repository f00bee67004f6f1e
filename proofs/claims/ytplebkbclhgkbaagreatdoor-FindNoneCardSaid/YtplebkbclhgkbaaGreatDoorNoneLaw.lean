/- FindNone: an expression that no call made says nothing. -/
import Derived.Test.YtplebkbclhgkbaaGreatDoorNonePlain
import Derived.Test.YtplebkbclhgkbaaGreatDoorEv5
import Derived.Test.YtplebkbclhgkbaaGreatDoorRows
import Derived.Test.YtplebkbclhgkbaaGreatDoorCards
import Derived.Test.YtplebkbclhgkbaaGreatDoorTie
import Derived.WalkKit
import Derived.ProofKit
import Derived.OpenShut
import Derived.ShutString
import Derived.ChangeOld
import Derived.Below
import Derived.SizedLaws
import Derived.Deep.CondSized
import Derived.JoinedCond
import Derived.Deep.DeepHandedRow
import Derived.Lib.LaidTab
set_option linter.unusedVariables false
set_option maxRecDepth 100000
namespace Go.Proofs.YtplebkbclhgkbaaGreatDoor.findNone
open Go.ChangeShapes Go.WideShapes Go.ChangeAt Go.RowKit
open Go.Ev (open_arg again_all below_grown weights_cons shL)
theorem own : ownKnob Tryz.prog.godebug = none := by kernel_rfl
/-- What is left to plain Lean: what the code computes is true. -/
def Pure : Prop := ∀ (a0 : Int) (a1 : ByteArray) (a2 : Int) (a3 : Int) (a4 : Int) (a5 : Int) (a6 : Int) (a7 : Int) (a8 : Int) (a9 : Int) (a10 : Int) (a11 : Int) (a12 : Int) (a13 : Int) (a14 : Int) (a15 : List Int), (Lit.int .i64 a0).wf = true → a1.size ≤ reachBytes → (Lit.int .i64 a2).wf = true → (Lit.int .i64 a3).wf = true → (Lit.int .i64 a4).wf = true → (Lit.int .i64 a5).wf = true → (Lit.int .i64 a6).wf = true → (Lit.int .i64 a7).wf = true → (Lit.int .i64 a8).wf = true → (Lit.int .i64 a9).wf = true → (Lit.int .i64 a10).wf = true → (Lit.int .i64 a11).wf = true → (Lit.int .i64 a12).wf = true → (Lit.int .i64 a13).wf = true → (Lit.int .i64 a14).wf = true → (a15.length ≤ reachBytes ∧ ∀ n ∈ a15, (Lit.int .i64 n).wf = true) → ∃ k, Go.Proofs.Tryz.F4.go k a0 a1 a2 a3 a4 a5 a6 a7 a8 a9 a10 a11 a12 a13 a14 a15 = some ((true, ()), (), ())
set_option maxRecDepth 100000 in
theorem walk (P : Pure) (a0 : Int) (a1 : ByteArray) (a2 : Int) (a3 : Int) (a4 : Int) (a5 : Int) (a6 : Int) (a7 : Int) (a8 : Int) (a9 : Int) (a10 : Int) (a11 : Int) (a12 : Int) (a13 : Int) (a14 : Int) (a15 : List Int) (v0 v1 v2 : Value) (w : World) (hp : Go.Ev.ShpW w) (h0 : (Lit.int .i64 a0).wf = true) (h1 : a1.size ≤ reachBytes) (h2 : (Lit.int .i64 a2).wf = true) (h3 : (Lit.int .i64 a3).wf = true) (h4 : (Lit.int .i64 a4).wf = true) (h5 : (Lit.int .i64 a5).wf = true) (h6 : (Lit.int .i64 a6).wf = true) (h7 : (Lit.int .i64 a7).wf = true) (h8 : (Lit.int .i64 a8).wf = true) (h9 : (Lit.int .i64 a9).wf = true) (h10 : (Lit.int .i64 a10).wf = true) (h11 : (Lit.int .i64 a11).wf = true) (h12 : (Lit.int .i64 a12).wf = true) (h13 : (Lit.int .i64 a13).wf = true) (h14 : (Lit.int .i64 a14).wf = true) (h15 : (a15.length ≤ reachBytes ∧ ∀ n ∈ a15, (Lit.int .i64 n).wf = true)) (r0 : Go.Ev.Rep w (fun b => b < w.heap.size) 0 (fun _ => none) (.agg [(.v (.int .i64 a0)), (.v (.string a1)), (.v (.int .i64 a2)), (.v (.int .i64 a3)), (.v (.int .i64 a4)), (.v (.int .i64 a5)), (.v (.int .i64 a6)), (.v (.int .i64 a7)), (.v (.int .i64 a8)), (.v (.int .i64 a9)), (.v (.int .i64 a10)), (.v (.int .i64 a11)), (.v (.int .i64 a12)), (.v (.int .i64 a13))]) v0) (r1 : Go.Ev.Rep w (fun b => b < w.heap.size) 0 (fun _ => none) (.v (.int .i64 a14)) v1) (r2 : Go.Ev.Rep w (fun b => b < w.heap.size) 0 (fun _ => none) (.ro false (.I .i64 a15)) v2) : Calls Tryz.prog 4 #[v0, v1, v2] w fun e w' => e = .returned (.bool true) ∧ Below w.heap.size w w' := by
  obtain ⟨k, hk⟩ := P a0 a1 a2 a3 a4 a5 a6 a7 a8 a9 a10 a11 a12 a13 a14 a15 h0 h1 h2 h3 h4 h5 h6 h7 h8 h9 h10 h11 h12 h13 h14 h15
  refine Go.Ev.law_calls (Go.Proofs.Tryz.F4.ok k) rfl rfl rfl (x := (((a0, a1, a2, a3, a4, a5, a6, a7, a8, a9, a10, a11, a12, a13, ()), a14, a15, ()), (), ())) hk hp rfl ?_
  intro t y h
  match t, h with
  | 0, h =>
    have h : some ((.agg [(.v (.int .i64 a0)), (.v (.string a1)), (.v (.int .i64 a2)), (.v (.int .i64 a3)), (.v (.int .i64 a4)), (.v (.int .i64 a5)), (.v (.int .i64 a6)), (.v (.int .i64 a7)), (.v (.int .i64 a8)), (.v (.int .i64 a9)), (.v (.int .i64 a10)), (.v (.int .i64 a11)), (.v (.int .i64 a12)), (.v (.int .i64 a13))]) : Go.Ev.AV) = some y := h
    injection h with h; subst h; exact ⟨by decide, r0⟩
  | 1, h =>
    have h : some ((.v (.int .i64 a14)) : Go.Ev.AV) = some y := h
    injection h with h; subst h; exact ⟨by decide, r1⟩
  | 2, h =>
    have h : some ((.ro false (.I .i64 a15)) : Go.Ev.AV) = some y := h
    injection h with h; subst h; exact ⟨by decide, r2⟩
  | t + 3, h => have h : (none : Option Go.Ev.AV) = some y := h; cases h
/-- a table's cells -/
def flatD : Nat → DataW Unit → List Value
  | 0, _ => []
  | f + 1, .agg l => l.flatMap (flatD f)
  | _ + 1, .lit (.int k n) => [.int k n]
  | _ + 1, _ => []
noncomputable def layOne (h : Array Obj) (nd : String × DataW Unit) : Array Obj :=
  match Tryz.prog.globalNamed nd.1 with
  | some g => h.modify g (fun o => match o with
    | .cells _ t frozen => .cells (flatD 6 nd.2).toArray t frozen
    | o => o)
  | none => h
/-- A world for the witness: the settled one, the listed tables holding what their initialisers lay. -/
noncomputable def laidWorld (os : Os) : World :=
  { World.holding Tryz.prog os ⟨#[], #[], []⟩ with heap := List.foldl layOne (World.holding Tryz.prog os ⟨#[], #[], []⟩).heap Rows.findNoneRow.laid }
set_option maxRecDepth 100000 in
theorem laid_met (os : Os) : laidMet Tryz.prog Rows.findNoneRow.laid ((laidWorld os).forCall (fun _ _ => 0) ⟨#[], #[.agg #[.int .i64 0, .string ByteArray.empty, .int .i64 0, .int .i64 0, .int .i64 0, .int .i64 0, .int .i64 0, .int .i64 0, .int .i64 0, .int .i64 0, .int .i64 0, .int .i64 0, .int .i64 0, .int .i64 0], .int .i64 0, .slice none 0 0], []⟩).memory :=
  laidMet_of_run' 8 (by kernel_rfl) (by kernel_rfl)
set_option maxRecDepth 100000 in
theorem reads (os : Os) {H : Type} (enc : TypeId × Value → H) : ∃ places, DataW.whole enc Tryz.prog ((laidWorld os).forCall (fun _ _ => 0) ⟨#[], #[.agg #[.int .i64 0, .string ByteArray.empty, .int .i64 0, .int .i64 0, .int .i64 0, .int .i64 0, .int .i64 0, .int .i64 0, .int .i64 0, .int .i64 0, .int .i64 0, .int .i64 0, .int .i64 0, .int .i64 0], .int .i64 0, .slice none 0 0], []⟩).memory Tryz.f4.params.toList (OpenSpec.ofChange Rows.findNoneSpec).vars false (#[.agg #[.int .i64 0, .string ByteArray.empty, .int .i64 0, .int .i64 0, .int .i64 0, .int .i64 0, .int .i64 0, .int .i64 0, .int .i64 0, .int .i64 0, .int .i64 0, .int .i64 0, .int .i64 0, .int .i64 0], .int .i64 0, .slice none 0 0] : Array Value).toList 8 = some ([.agg [.lit (.int .i64 0), .lit (.string []), .lit (.int .i64 0), .agg [.lit (.int .i64 0), .lit (.int .i64 0), .lit (.int .i64 0), .lit (.int .i64 0), .lit (.int .i64 0), .lit (.int .i64 0), .lit (.int .i64 0), .lit (.int .i64 0), .lit (.int .i64 0), .lit (.int .i64 0)], .lit (.int .i64 0)], .lit (.int .i64 0), .nil], [], places) :=
  ⟨[], by kernel_rfl⟩
set_option maxRecDepth 100000 in
theorem lifted (P : Pure) (os : Os) (started : os.Started) (H : Type) (enc : TypeId × Value → H) (F : Stop.Interp) :
    ReturnsInHanded {} Tryz.checked os 4 .any ((OpenSpec.ofChange Rows.findNoneSpec).preRow enc Tryz.prog Tryz.f4 Rows.findNoneRow.domain false Rows.findNoneRow.laid) (((OpenSpec.ofChange Rows.findNoneSpec).at F).post enc Tryz.prog Tryz.f4 false true false false) := by
  obtain ⟨places, hx⟩ := reads os enc
  refine returnsInHanded_of_row (C := Tryz.checked) (s := (OpenSpec.ofChange Rows.findNoneSpec)) own started (by kernel_rfl) Tryz.func4
    (witness_row_at (enc := enc) (C := Tryz.checked) false (laidWorld os) #[.agg #[.int .i64 0, .string ByteArray.empty, .int .i64 0, .int .i64 0, .int .i64 0, .int .i64 0, .int .i64 0, .int .i64 0, .int .i64 0, .int .i64 0, .int .i64 0, .int .i64 0, .int .i64 0, .int .i64 0], .int .i64 0, .slice none 0 0] rfl (by kernel_rfl) (by kernel_rfl) (by kernel_rfl)
      (OpenSpec.preRow_of_cond 8 hx (by kernel_rfl) (fun k hk => by cases hk) (by kernel_rfl) (laid_met os))) ?_
  intro W base args ds gs before hval0 hW hcnd hk0 hsz0 _ hsh _
  have hsz : (DataW.weightsEach Tryz.prog (Tryz.f4.params.toList ++ Rows.findNoneSpec.plain.varTypes Tryz.prog) (ds ++ gs)).all (· ≤ reachBytes) = true := hsz0
  have hval : ∀ (j : Nat) t v, Tryz.f4.params[j]? = some t → args[j]? = some v → Value.okWide Tryz.prog W .any base t v := hval0
  have hW' := hW
  obtain ⟨p, q, hA0, hV, rfl, hfz, hnd⟩ := hW
  have hA : DataW.TrodAll enc Tryz.prog W 0 (fun _ => true) true Tryz.f4.params.toList args.toList ds p := hA0
  rw [Tryz.params4] at hA hval hsz
  have hAll := hA
  obtain ⟨v0, vs0, d0, ds0, p0, q0, hargs, rfl, rfl, h0, r0⟩ := trodAll_cons hA
  obtain ⟨v1, vs1, d1, ds1, p1, q1, rfl, rfl, rfl, h1, r1⟩ := trodAll_cons r0
  obtain ⟨v2, vs2, d2, ds2, p2, q2, rfl, rfl, rfl, h2, r2⟩ := trodAll_cons r1
  obtain ⟨rfl, rfl, rfl⟩ := trodAll_nil r2
  obtain rfl : args = #[v0, v1, v2] := by cases args; simp_all
  obtain ⟨rfl, rfl⟩ := trodVars_none hV
  have z0 : (DataW.weightsEach Tryz.prog [28, 2, 29] [d0, d1, d2]).all (· ≤ reachBytes) = true := hsz
  obtain ⟨w0, z1⟩ := weights_cons z0
  obtain ⟨w1, z2⟩ := weights_cons z1
  obtain ⟨w2, z3⟩ := weights_cons z2
  obtain ⟨y0, f0, r0⟩ := open_arg (show shL Tryz.prog 30 28 = some (.agg [(.int .i64), .str, (.int .i64), (.int .i64), (.int .i64), (.int .i64), (.int .i64), (.int .i64), (.int .i64), (.int .i64), (.int .i64), (.int .i64), (.int .i64), (.int .i64)]) by kernel_rfl) (hval 0 28 v0 rfl rfl) h0 w0
  obtain ⟨l0, rfl, f0_0⟩ := f0
  obtain ⟨yf0_0, lf0_0, rfl, f0_c0, f0_1⟩ := Go.Ev.Fits.cons f0_0
  obtain ⟨a0, rfl, e0⟩ := f0_c0
  obtain ⟨yf0_1, lf0_1, rfl, f0_c1, f0_2⟩ := Go.Ev.Fits.cons f0_1
  obtain ⟨a1, rfl, e1⟩ := f0_c1
  obtain ⟨yf0_2, lf0_2, rfl, f0_c2, f0_3⟩ := Go.Ev.Fits.cons f0_2
  obtain ⟨a2, rfl, e2⟩ := f0_c2
  obtain ⟨yf0_3, lf0_3, rfl, f0_c3, f0_4⟩ := Go.Ev.Fits.cons f0_3
  obtain ⟨a3, rfl, e3⟩ := f0_c3
  obtain ⟨yf0_4, lf0_4, rfl, f0_c4, f0_5⟩ := Go.Ev.Fits.cons f0_4
  obtain ⟨a4, rfl, e4⟩ := f0_c4
  obtain ⟨yf0_5, lf0_5, rfl, f0_c5, f0_6⟩ := Go.Ev.Fits.cons f0_5
  obtain ⟨a5, rfl, e5⟩ := f0_c5
  obtain ⟨yf0_6, lf0_6, rfl, f0_c6, f0_7⟩ := Go.Ev.Fits.cons f0_6
  obtain ⟨a6, rfl, e6⟩ := f0_c6
  obtain ⟨yf0_7, lf0_7, rfl, f0_c7, f0_8⟩ := Go.Ev.Fits.cons f0_7
  obtain ⟨a7, rfl, e7⟩ := f0_c7
  obtain ⟨yf0_8, lf0_8, rfl, f0_c8, f0_9⟩ := Go.Ev.Fits.cons f0_8
  obtain ⟨a8, rfl, e8⟩ := f0_c8
  obtain ⟨yf0_9, lf0_9, rfl, f0_c9, f0_10⟩ := Go.Ev.Fits.cons f0_9
  obtain ⟨a9, rfl, e9⟩ := f0_c9
  obtain ⟨yf0_10, lf0_10, rfl, f0_c10, f0_11⟩ := Go.Ev.Fits.cons f0_10
  obtain ⟨a10, rfl, e10⟩ := f0_c10
  obtain ⟨yf0_11, lf0_11, rfl, f0_c11, f0_12⟩ := Go.Ev.Fits.cons f0_11
  obtain ⟨a11, rfl, e11⟩ := f0_c11
  obtain ⟨yf0_12, lf0_12, rfl, f0_c12, f0_13⟩ := Go.Ev.Fits.cons f0_12
  obtain ⟨a12, rfl, e12⟩ := f0_c12
  obtain ⟨yf0_13, lf0_13, rfl, f0_c13, f0_14⟩ := Go.Ev.Fits.cons f0_13
  obtain ⟨a13, rfl, e13⟩ := f0_c13
  obtain rfl := Go.Ev.Fits.nil f0_14
  obtain ⟨y1, f1, r1⟩ := open_arg (show shL Tryz.prog 30 2 = some (.int .i64) by kernel_rfl) (hval 1 2 v1 rfl rfl) h1 w1
  obtain ⟨a14, rfl, e14⟩ := f1
  obtain ⟨y2, f2, r2⟩ := open_arg (show shL Tryz.prog 30 29 = some (.roI false .i64) by kernel_rfl) (hval 2 29 v2 rfl rfl) h2 w2
  obtain ⟨a15, rfl, e15⟩ := f2
  clear hA0 hval0 hsz0 hsz
  refine (walk P a0 a1 a2 a3 a4 a5 a6 a7 a8 a9 a10 a11 a12 a13 a14 a15 v0 v1 v2 W (Tryz.shpW W hsh) e0 e1 e2 e3 e4 e5 e6 e7 e8 e9 e10 e11 e12 e13 e14 e15 r0 r1 r2).mono fun e W' ⟨he, bel⟩ => ?_
  subst he
  exact ⟨_, rfl, _, _, _, [], _, [], hW', trodAll_mk1 (shut_bool Tryz.underlying4 _), again_all (below_grown bel) (by kernel_rfl) hAll, rfl, bel.frame _, fun h => by cases h⟩
theorem over (P : Pure) : Rows.findNoneRow.holds Tryz.pinned (OpenSpec.ofChange Rows.findNoneSpec) :=
  OpenClaim.holds_of_cond 4 Tryz.f4 rfl rfl rfl rfl rfl rfl rfl ⟨rfl, rfl, rfl, rfl, rfl⟩ rfl rfl rfl rfl rfl (by kernel_rfl) Tryz.func4 (by kernel_rfl)
    (of_decide_eq_true (by kernel_rfl)) (by unfold Func.isWrapper; first | (rw [if_pos (by decide +kernel)]; kernel_rfl) | (rw [if_neg (by decide +kernel)]; exact ⟨rfl, rfl⟩))
    (fun os started H enc _ F => by rw [OpenClaim.pre_eq_preRow]; exact lifted P os started H enc F)
/-- No parameter wants a stand-in; the program's own looks are off: what the card asks. -/
theorem plain (f : FuncId) (fn : Func) (hf : Tryz.pinned.checked.prog.funcNamed "tinsel/tinsellaw20.FindNone" = some f) (hfn : Tryz.pinned.checked.prog.funcs[f]? = some fn) :
    true = Tryz.pinned.checked.prog.looks [] ∧ ∀ (j : Nat) t, fn.params[j]? = some t → Tryz.pinned.checked.prog.wantsStandIn t = false := by
  obtain rfl : f = 4 := Option.some.inj ((show Tryz.prog.funcNamed "tinsel/tinsellaw20.FindNone" = some 4 by kernel_rfl).symm.trans hf) |>.symm
  obtain rfl : fn = Tryz.f4 := (Option.some.inj (Tryz.func4.symm.trans hfn)).symm
  refine ⟨by kernel_rfl, fun j t ht => ?_⟩
  rw [Tryz.params4] at ht
  have hm := Array.mem_of_getElem? ht
  have hm : t = 28 ∨ t = 2 ∨ t = 29 := by simpa using hm
  rcases hm with rfl | rfl | rfl
  · exact (show Tryz.prog.wantsStandIn 28 = false by kernel_rfl)
  · exact (show Tryz.prog.wantsStandIn 2 = false by kernel_rfl)
  · exact (show Tryz.prog.wantsStandIn 29 = false by kernel_rfl)
theorem card_of_pure (P : Pure) : Rows.FindNoneCardSaid :=
  Claim7.holds_tied_plain_at .later [] _ _ _ _ (over P) (fun _ h => by cases h) (by kernel_rfl) (fun _ h => by cases h) findNone_row_tie rfl ⟨rfl, rfl⟩ (by kernel_rfl) rfl plain (by kernel_rfl)
end Go.Proofs.YtplebkbclhgkbaaGreatDoor.findNone

namespace Go.Proofs.YtplebkbclhgkbaaGreatDoor
theorem findNoneCardTrue : Rows.FindNoneCardSaid := findNone.card_of_pure (by unfold findNone.Pure; intros; exact ⟨0, rfl⟩)
end Go.Proofs.YtplebkbclhgkbaaGreatDoor
