/- What the functions of the library compute, as the kit has proved it, in the words of the evaluator. -/
import Derived.Test.YtlkhhhfoiipiaaaEv4
import Derived.Shelf.Vars
import Derived.Test.YtlkhhhfoiipiaaaProg
namespace Go.Proofs
theorem Try.shpW (w : Go.World) (h : w.ShapedOpen Try.prog) : Go.Ev.ShpW w := by
  intro g hg
  obtain rfl : g = 0 := by simpa [Go.Ev.shpList] using hg
  exact cell_of_shapedOpen_int h (by decide +kernel) (t := 3) (zero := #[.int .i64 0]) (by kernel_rfl) rfl (by kernel_rfl) (by kernel_rfl) Try.underlying3
end Go.Proofs

