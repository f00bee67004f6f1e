/- What the code that the law reaches computes, function by function: each plain function below is what the given code of that number does, for every argument. -/
import Derived.Test.YtplebkbclhgkbaaGreatDoorLib
import Derived.Test.YtplebkbclhgkbaaGreatDoorProg
set_option linter.unusedVariables false
set_option linter.unusedSimpArgs false
set_option linter.unusedSectionVars false
set_option maxRecDepth 100000
/-! ### F4 -/
noncomputable def Go.Proofs.Tryz.F4.body : Go.Code := Go.Ev.bodyOf Go.Proofs.Tryz.f4
noncomputable def Go.Proofs.Tryz.F4.O (R : Type) : Go.FuncId → Option (Go.Ev.CallF R) := Go.Ev.consO 7 (Go.Ev.cfLib (Go.Ev.spConst (.bool true))) (Go.Proofs.Tryz.base0 R)
theorem Go.Proofs.Tryz.F4.O_ok (R : Type) : Go.Ev.OOK (R := R) Go.Proofs.Tryz.prog (Go.Proofs.Tryz.F4.O R) := Go.Ev.OOK.cons (by kernel_rfl) Go.Proofs.Tryz.lib7 (Go.Proofs.Tryz.base0_ok R)
noncomputable def Go.Proofs.Tryz.F4.tin : Go.Ev.Tmpl := ⟨[(0, .agg [.int .i64, .str, .int .i64, .int .i64, .int .i64, .int .i64, .int .i64, .int .i64, .int .i64, .int .i64, .int .i64, .int .i64, .int .i64, .int .i64]), (1, .int .i64), (2, .ro false (.I .i64))], [], [], []⟩
noncomputable def Go.Proofs.Tryz.F4.outs : Go.Ev.Outs := [(.normal, ⟨[(0, .bool)], [], [], []⟩)]
abbrev Go.Proofs.Tryz.F4.r (a0 : Bool) : (((Bool × Unit) × Unit × Unit)) := ((a0, ()), (), ())
noncomputable def Go.Proofs.Tryz.F4.go (k : Nat) (a0 : Int) (a1 : ByteArray) (a2 : Int) (a3 : Int) (a4 : Int) (a5 : Int) (a6 : Int) (a7 : Int) (a8 : Int) (a9 : Int) (a10 : Int) (a11 : Int) (a12 : Int) (a13 : Int) (a14 : Int) (a15 : List Int) : Option (((Bool × Unit) × Unit × Unit)) := Option.some ((Bool.true, ()), (), ())
noncomputable def Go.Proofs.Tryz.F4.fn (k : Nat) (x : Go.Proofs.Tryz.F4.tin.T) : Option (Go.Ev.ESum Go.Proofs.Tryz.F4.outs) := Go.Proofs.Tryz.F4.go k x.1.1.1 x.1.1.2.1 x.1.1.2.2.1 x.1.1.2.2.2.1 x.1.1.2.2.2.2.1 x.1.1.2.2.2.2.2.1 x.1.1.2.2.2.2.2.2.1 x.1.1.2.2.2.2.2.2.2.1 x.1.1.2.2.2.2.2.2.2.2.1 x.1.1.2.2.2.2.2.2.2.2.2.1 x.1.1.2.2.2.2.2.2.2.2.2.2.1 x.1.1.2.2.2.2.2.2.2.2.2.2.2.1 x.1.1.2.2.2.2.2.2.2.2.2.2.2.2.1 x.1.1.2.2.2.2.2.2.2.2.2.2.2.2.2.1 x.1.2.1 x.1.2.2.1
set_option maxRecDepth 1000000 in
theorem Go.Proofs.Tryz.F4.e (k : Nat) (x : Go.Proofs.Tryz.F4.tin.T) : Go.Ev.inEv Go.Proofs.Tryz.prog 100 (fun _ E => E) Go.Proofs.Tryz.its0 (Go.Ev.inO Go.Proofs.Tryz.prog 100 (fun _ E => E) Go.Proofs.Tryz.F4.O Go.Proofs.Tryz.its0 20) (Go.Ev.ESum Go.Proofs.Tryz.F4.outs) Go.Proofs.Tryz.F4.body (Go.Ev.Tmpl.enc Go.Proofs.Tryz.F4.tin 62 x) (Go.Ev.decFn Go.Proofs.Tryz.prog (Go.Func.results Go.Proofs.Tryz.f4).toList Go.Proofs.Tryz.F4.outs) = Go.Proofs.Tryz.F4.fn k x := by kernel_rfl
theorem Go.Proofs.Tryz.F4.ok (k : Nat) : Go.Ev.CallOK Go.Proofs.Tryz.prog 4 3 Go.Proofs.Tryz.F4.tin Go.Proofs.Tryz.F4.outs (Go.Proofs.Tryz.F4.fn k) := Go.Ev.fnI_ok (c := Go.Proofs.Tryz.F4.body) Go.Proofs.Tryz.func4 (by kernel_rfl) (by kernel_rfl) (by kernel_rfl) (Go.Ev.inEv_ok Go.Proofs.Tryz.its0_ok (Go.Ev.inO_ok Go.Proofs.Tryz.F4.O_ok Go.Proofs.Tryz.its0_ok 20) _ _) (Go.Proofs.Tryz.F4.e k)
