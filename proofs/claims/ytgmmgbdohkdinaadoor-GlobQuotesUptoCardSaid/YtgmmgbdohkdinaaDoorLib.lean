/- What the functions of the library compute, as the kit has proved it, in the words of the evaluator. -/
import Derived.Test.YtgmmgbdohkdinaaDoorEv4
import Derived.Test.YtgmmgbdohkdinaaDoorShelf
import Derived.Shelf.Vars
import Derived.Lib.Strings
import Derived.Lib.Slices
import Derived.Lib.Walk
import Derived.Lib.Builder
import Derived.Lib.AppendStr
import Derived.Lib.UnsafeStr
import Derived.WalkKit
import Derived.Laws.Externs
import Derived.Laws.IdiomCopy
import Derived.Laws.BitsLemmas
namespace Go.Proofs.Tryd
open Go Go.Ev
theorem lib87 : LibOK Tryd.prog 87 spCut := by
  intro args v w h hs
  unfold spCut at h
  split at h
  · rename_i s sep
    injection h with h; injection h with h1 h2; subst h2
    obtain ⟨m, hm⟩ := hs 0 (by decide)
    refine (Any.strings_Cut Tryd.lays145 s sep m w (of_decide_eq_true h1) hm).mono fun e w' ⟨g1, n, g2⟩ => ⟨g1, ?_⟩
    subst g2; exact ⟨rfl, rfl, rfl, Nat.le_refl _, fun _ _ => rfl⟩
  · cases h
theorem lib88 : LibOK Tryd.prog 88 spAny := by
  intro args v w h hs
  unfold spAny at h
  split at h
  · rename_i s c
    injection h with h; injection h with h1 h2; subst h2
    simp only [Bool.and_eq_true, decide_eq_true_eq] at h1
    exact Any.strings_ContainsAny_laid Tryd.lays150 (by kernel_rfl) s c w h1.2.2.1 h1.2.2.2 (ascii_spec h1.2.1) (ascii_spec h1.1)
  · cases h
theorem lib49 : LibOK Tryd.prog 49 spTrim := by
  intro args v w h hs
  unfold spTrim at h
  split at h
  · rename_i s c
    injection h with h; injection h with h1 h2; subst h2
    simp only [Bool.and_eq_true, decide_eq_true_eq] at h1
    exact Any.strings_Trim_laid Tryd.lays160 (by kernel_rfl) s c w h1.2.1 h1.2.2 (ascii_spec h1.1)
  · cases h
theorem lib41 {R : Type} : CFOK (R := R) Tryd.prog 41 cfClone := cfClone_ok (e := 5) rfl (fun a n c xs w h1 h2 h3 => Any.bytes_Clone_at Tryd.laysSlK4 a n c xs w h1 h2 h3) (fun n c w => Any.bytes_Clone_nil Tryd.laysSlK4 n c w)
/-! ### strings.Builder -/
set_option maxHeartbeats 1000000
set_option maxRecDepth 100000
theorem bcopy : CopyOK Tryd.prog 84 77 where
  used := by
    intro b w h0
    have hsz : (Tryd.prog.info? 77).map (·.size) = some 2 := by kernel_rfl
    obtain ⟨j, hj, _⟩ := Option.map_eq_some_iff.1 hsz
    go_enter Tryd.func84, Tryd.ntmps84
    go_wp2
    rw [Lib.run_neq_ptr_same w _ Tryd.underlying75 hj]
    go_wp2
    go_end0
    exact ⟨rfl, rfl⟩
  fresh := by
    intro b w h0 hsh hfz
    have hsz : (Tryd.prog.info? 77).map (·.size) = some 2 := by kernel_rfl
    have hlies : liesAt Tryd.prog Tryd.prog.depth 77 (2 / Tryd.prog.cellsOf 77) 0 77 1 = true := by kernel_rfl
    obtain ⟨j, hj, hjs⟩ := Option.map_eq_some_iff.1 hsz
    go_enter Tryd.func84, Tryd.ntmps84
    go_wp2
    rw [Lib.run_to_unsafe w ⟨b, 0, none⟩ Tryd.underlying75 Tryd.underlying123 hj (by rw [hjs]; decide) hsh (Nat.zero_lt_succ 1)]
    simp only [Result.andThen]
    rw [Oper.upon_value]
    go_wp2
    rw [run_callFunc_extern Tryd.func100 (by kernel_rfl) (by kernel_rfl) (by kernel_rfl) (e := Extern.AbiNoEscape.same) (by kernel_rfl)]
    rw [Lib.run_noEscape]
    simp only [Result.andThen]
    rw [Oper.upon_value]
    go_wp2
    rw [Lib.run_from_unsafe w ⟨b, 0, none⟩ Tryd.underlying123 Tryd.underlying75 hj hsh hlies]
    simp only [Result.andThen]
    rw [Oper.upon_value]
    go_wp2
    go_end0
    exact ⟨rfl, rfl⟩
theorem bstr : StrOK Tryd.prog 56 where
  row := by
    intro b g o cap cells l w h0 hc1 hcap hsh hn h63 hcell
    have c1 : w.drew.cell? ⟨b, 1, none⟩ = some (.slice (some ⟨g, o, none⟩) l.length cap) := hc1
    have hSD : (Builtin.unsafeSliceData_ #[26] 107 #[.slice (some ⟨g, o, none⟩) l.length cap]).run Tryd.prog w.drew = .ok (.pointer (some ⟨g, o, none⟩)) w.drew := Lib.run_unsafeSliceData_row _ _ _ _ _ _ hcap
    have hUS : (Builtin.unsafeString_ #[107, 3] 9 #[.pointer (some ⟨g, o, none⟩), .int .i64 l.length]).run Tryd.prog w.drew = .ok (.string (strOf l)) (w.drew.freeze ⟨g, o, none⟩ l.length) :=
      run_unsafeStringI w.drew 107 3 9 5 Tryd.underlying107 (by kernel_rfl) g o cells hsh l h0 hn h63 hcell
    clear hcell
    go_enter Tryd.func56, Tryd.ntmps56
    go_wp2
    go_region
    all_goals (go_wp2; go_ret; exact ⟨rfl, rfl⟩)
  nil := by
    intro b w hc1
    have c1 : w.drew.cell? ⟨b, 1, none⟩ = some (.slice none 0 0) := hc1
    have hSD : (Builtin.unsafeSliceData_ #[26] 107 #[.slice none 0 0]).run Tryd.prog w.drew = .ok (.pointer none) w.drew := rfl
    have hUS : (Builtin.unsafeString_ #[107, 3] 9 #[.pointer none, .int .i64 0]).run Tryd.prog w.drew = .ok (.string .empty) w.drew := Lib.run_unsafeString_none w.drew 107 3 9 none
    go_enter Tryd.func56, Tryd.ntmps56
    go_wp2
    go_region
    all_goals (go_wp2; go_ret; exact ⟨rfl, rfl⟩)
theorem lib84 {R : Type} : CFOK (R := R) Tryd.prog 84 (cfCopy 77) := cfCopy_ok bcopy
theorem lib56 {R : Type} : CFOK (R := R) Tryd.prog 56 cfBStr := cfBStr_ok bstr
end Go.Proofs.Tryd
namespace Go.Proofs
theorem Tryd.shpW (w : Go.World) (h : w.ShapedOpen Tryd.prog) : Go.Ev.ShpW w := by
  intro g hg
  obtain rfl : g = 0 := by simpa [Go.Ev.shpList] using hg
  exact cell_of_shapedOpen_int h (by decide +kernel) (t := 3) (zero := #[.int .i64 0]) (by kernel_rfl) rfl (by kernel_rfl) (by kernel_rfl) Tryd.underlying3
end Go.Proofs

