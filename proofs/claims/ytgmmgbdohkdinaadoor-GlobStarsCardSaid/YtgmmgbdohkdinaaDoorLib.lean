/- What the functions of the library compute, as the kit has proved it, in the words of the evaluator. -/
import Derived.Test.YtgmmgbdohkdinaaDoorEv4
import Derived.Test.YtgmmgbdohkdinaaDoorShelf
import Derived.Shelf.Vars
namespace Go.Proofs.Tryd
open Go Go.Ev
theorem lib87 : LibOK Tryd.prog 87 spCut := by
  intro args v w h hs
  unfold spCut at h
  split at h
  · rename_i s sep
    injection h with h; injection h with h1 h2; subst h2
    obtain ⟨m, hm⟩ := hs 0 (by decide)
    refine (Any.strings_Cut Tryd.lays145 s sep m w (of_decide_eq_true h1) hm).mono fun e w' ⟨g1, n, g2⟩ => ⟨g1, ?_⟩
    subst g2; exact ⟨rfl, rfl, rfl, Nat.le_refl _, fun _ _ => rfl⟩
  · cases h
theorem lib88 : LibOK Tryd.prog 88 spAny := by
  intro args v w h hs
  unfold spAny at h
  split at h
  · rename_i s c
    injection h with h; injection h with h1 h2; subst h2
    simp only [Bool.and_eq_true, decide_eq_true_eq] at h1
    exact Any.strings_ContainsAny_laid Tryd.lays150 (by kernel_rfl) s c w h1.2.2.1 h1.2.2.2 (ascii_spec h1.2.1) (ascii_spec h1.1)
  · cases h
theorem lib49 : LibOK Tryd.prog 49 spTrim := by
  intro args v w h hs
  unfold spTrim at h
  split at h
  · rename_i s c
    injection h with h; injection h with h1 h2; subst h2
    simp only [Bool.and_eq_true, decide_eq_true_eq] at h1
    exact Any.strings_Trim_laid Tryd.lays160 (by kernel_rfl) s c w h1.2.1 h1.2.2 (ascii_spec h1.1)
  · cases h
theorem lib41 {R : Type} : CFOK (R := R) Tryd.prog 41 cfClone := cfClone_ok (e := 5) (fun a n c xs w h1 h2 h3 => Any.bytes_Clone_at Tryd.laysSlK4 a n c xs w h1 h2 h3) (fun n c w => Any.bytes_Clone_nil Tryd.laysSlK4 n c w)
end Go.Proofs.Tryd
namespace Go.Proofs
theorem Tryd.shpW (w : Go.World) (h : w.ShapedOpen Tryd.prog) : Go.Ev.ShpW w := by
  intro g hg
  obtain rfl : g = 0 := by simpa [Go.Ev.shpList] using hg
  exact cell_of_shapedOpen_int h (by decide +kernel) (t := 3) (zero := #[.int .i64 0]) (by kernel_rfl) rfl (by kernel_rfl) (by kernel_rfl) Tryd.underlying3
end Go.Proofs

