/- What the code that the law reaches computes, function by function: each plain function below is what the given code of that number does, for every argument. -/
import Derived.Test.YtpobfjefkefadaaDoorLib
import Derived.Test.YtpobfjefkefadaaDoorProg
set_option linter.unusedVariables false
set_option linter.unusedSimpArgs false
set_option linter.unusedSectionVars false
set_option maxRecDepth 100000
/-! ### F3 -/
noncomputable def Go.Proofs.Tryd.F3.body : Go.Code := Go.Ev.bodyOf Go.Proofs.Tryd.f3
noncomputable def Go.Proofs.Tryd.F3.O {R : Type} (k : Nat) : Go.FuncId → Option (Go.Ev.CallF R) := (Go.Ev.consO 12 (Go.Ev.cfLib (Go.Ev.spConst (.bool true))) Go.Ev.noO)
theorem Go.Proofs.Tryd.F3.O_ok {R : Type} (k : Nat) : Go.Ev.OOK (R := R) Go.Proofs.Tryd.prog (Go.Proofs.Tryd.F3.O k) := (Go.Ev.OOK.cons (by kernel_rfl) Go.Proofs.Tryd.lib12 Go.Ev.OOK.nil)
noncomputable def Go.Proofs.Tryd.F3.L0 {R : Type} (k : Nat) : Go.Ev.EvL R := (fun _ => none)
theorem Go.Proofs.Tryd.F3.L0_ok {R : Type} (k : Nat) : Go.Ev.LH (R := R) Go.Proofs.Tryd.prog Go.Proofs.Tryd.F3.body (Go.Proofs.Tryd.F3.L0 k) := Go.Ev.LH.nil
noncomputable def Go.Proofs.Tryd.F3.tin : Go.Ev.Tmpl := ⟨[], [], [], []⟩
noncomputable def Go.Proofs.Tryd.F3.outs : Go.Ev.Outs := [(.normal, ⟨[(0, .bool)], [], [], []⟩)]
abbrev Go.Proofs.Tryd.F3.r (a0 : Bool) : (((Bool × Unit) × Unit × Unit)) := ((a0, ()), (), ())
noncomputable def Go.Proofs.Tryd.F3.go (k : Nat)  : Option (((Bool × Unit) × Unit × Unit)) := Option.some ((Bool.true, ()), (), ())
noncomputable def Go.Proofs.Tryd.F3.fn (k : Nat) (x : Go.Proofs.Tryd.F3.tin.T) : Option (Go.Ev.ESum Go.Proofs.Tryd.F3.outs) := Go.Proofs.Tryd.F3.go k
theorem Go.Proofs.Tryd.F3.e (k : Nat) (x : Go.Proofs.Tryd.F3.tin.T) : Go.Ev.evCode (R := Go.Ev.ESum Go.Proofs.Tryd.F3.outs) (Go.Ev.evOp Go.Proofs.Tryd.prog (Go.Proofs.Tryd.F3.O k)) (Go.Proofs.Tryd.F3.L0 k) 1 Go.Proofs.Tryd.F3.body (Go.Ev.Tmpl.enc Go.Proofs.Tryd.F3.tin 4 x) (Go.Ev.decFn Go.Proofs.Tryd.prog (Go.Func.results Go.Proofs.Tryd.f3).toList Go.Proofs.Tryd.F3.outs) = Go.Proofs.Tryd.F3.fn k x := by kernel_rfl
theorem Go.Proofs.Tryd.F3.ok (k : Nat) : Go.Ev.CallOK Go.Proofs.Tryd.prog 3 0 Go.Proofs.Tryd.F3.tin Go.Proofs.Tryd.F3.outs (Go.Proofs.Tryd.F3.fn k) := Go.Ev.fn_ok (c := Go.Proofs.Tryd.F3.body) Go.Proofs.Tryd.func3 (by kernel_rfl) (by kernel_rfl) (by kernel_rfl) (Go.Ev.evOp_ok (Go.Proofs.Tryd.F3.O_ok k)) (Go.Ev.lgood (q := 1) (Go.Proofs.Tryd.F3.L0_ok k) (by kernel_rfl) (by kernel_rfl)) (Go.Proofs.Tryd.F3.e k)
noncomputable def Go.Proofs.Tryd.F3.cf {R : Type} (k : Nat) : Go.Ev.CallF R := Go.Ev.crunN 0 Go.Proofs.Tryd.F3.tin Go.Proofs.Tryd.F3.outs (Go.Proofs.Tryd.F3.fn k)
theorem Go.Proofs.Tryd.F3.cf_ok {R : Type} (k : Nat) : Go.Ev.CFOK (R := R) Go.Proofs.Tryd.prog 3 (Go.Proofs.Tryd.F3.cf k) := Go.Ev.crunN_ok (Go.Proofs.Tryd.F3.ok k) (by kernel_rfl)
